/- parcel.piece: a leaf's piece behind a row. -/
import Derived.Test.YtlnaeppbhjmocaaDoorS7
import Derived.Lib.AppendStr
import Derived.Shelf.Abstract
import Derived.Shelf.RegionOpen
import Derived.OwnWalkIn
import Derived.TacticsInMore
import Derived.LoopNIn
import Derived.LoopIn
import Derived.WalkKit
import Derived.Maps.AppendAt
import Derived.OrdersIn
import Derived.RangeFuncCalls
import Derived.Sort.CutIn
set_option linter.unusedSectionVars false
set_option linter.unnecessarySimpa false
set_option linter.unusedSimpArgs false
set_option linter.unusedVariables false
set_option linter.unusedSimpArgs false
set_option linter.unusedVariables false
namespace Go.Proofs.YtlnaeppbhjmocaaDoor
open Go.RowKit Go.Proofs

theorem ish_trans {w w1 : World} {r r' r'' : Option Nat} (h : Ownish w r r') (hs : w.heap.size ≤ w1.heap.size) (k : Ownish w1 r' r'') : Ownish w r r'' := by
  rcases k with e | ⟨x, e, hx⟩
  · rw [e]; exact h
  · exact .inr ⟨x, e, by omega⟩
theorem strCells_I (s : ByteArray) : Lib.strCells s = (bytesI s).map (Value.int .u8) := by
  unfold Lib.strCells bytesI
  rw [List.map_map]
  rfl
set_option maxRecDepth 100000 in
theorem append_str (ty : TypeId) (B : Nat) (A : Option Addr) (c : Nat) (xs : List Int) (s : ByteArray) (w : World) (ho : OwnB w B (.slice A xs.length c) xs) (hl : xs.length + s.size ≤ 1099511627776) (hB : B ≤ w.heap.size) :
    ∃ v' w', (Builtin.append_ #[22, 9] ty #[.slice A xs.length c, .string s]).run Tryd.prog w = .ok v' w' ∧ OwnB w' B v' (xs ++ bytesI s) ∧ w.grownBy w' (Value.slice A xs.length c).ownBlock ∧ Ownish w (Value.slice A xs.length c).ownBlock v'.ownBlock := by
  obtain ⟨i, hi, hz, hs, hby⟩ := info_byte
  obtain ⟨v', w', hr, h2, h3, h4⟩ := Lib.run_append_own_string (P := Tryd.prog) w B 22 9 ty 5 i Tryd.underlying22 Tryd.underlying9 hi hz hs hby (.slice A xs.length c) xs.length (xs.map (Value.int .u8)) ho s (by unfold maxLen; omega) (by omega) hB
  refine ⟨v', w', hr, ?_, h3, ?_⟩
  · unfold OwnB
    rw [List.length_append, List.map_append, bytesI_length, ← strCells_I]
    exact h2
  · rcases ho.2 with ⟨hv, h0⟩ | ⟨g, cap, cur, hv, hbg, hg, hnc, hcm, hcs, htake⟩
    · by_cases hm : s.size = 0
      · left; rw [h4.2 ⟨hv, hm⟩, hv]
      · right
        injection hv with e1 e2 e3
        rw [e1, e2, e3] at hr
        have hr2 := run_append_nil_string (P := Tryd.prog) w 22 9 ty 5 i (.int .u8 0) Tryd.underlying22 Tryd.underlying9 hi hz s (by omega) (by omega) (by rw [hby]; omega)
        rw [hr2] at hr
        injection hr with e4 e5
        exact ⟨w.heap.size, by rw [← e4]; rfl, Nat.le_refl _⟩
    · injection hv with e1 e2 e3
      subst e1 e3
      by_cases hroom : xs.length + s.size ≤ c
      · left
        have hr2 := Lib.run_append_room_string (P := Tryd.prog) w 22 9 ty 5 i Tryd.underlying22 Tryd.underlying9 hi hs g xs.length c cur hg s hroom (by omega)
        rw [hr2] at hr
        injection hr with e4 e5
        rw [← e4]; rfl
      · right
        have holds : ∀ j u, (xs.map (Value.int .u8))[j]? = some u → w.cell? ((⟨g, 0, none⟩ : Addr).add j) = some u := World.ownsRow.cells ho (g := g) rfl
        have hr2 := Lib.run_append_grow_string (P := Tryd.prog) w 22 9 ty 5 i (.int .u8 0) Tryd.underlying22 Tryd.underlying9 hi hz ⟨g, 0, none⟩ xs.length c (xs.map (Value.int .u8)) (by rw [hs]; simp) holds s (by omega) (by omega) (by rw [hby]; exact growslice_fits (by omega) (by omega))
        rw [hr2] at hr
        injection hr with e4 e5
        exact ⟨w.heap.size, by rw [← e4]; rfl, Nat.le_refl _⟩
/-- append of bytes that lie somewhere -/
theorem append_row (ty : TypeId) (B : Nat) (A : Option Addr) (c : Nat) (xs ys : List Int) (a : Option Addr) (d : Nat) (w : World) (ho : OwnB w B (.slice A xs.length c) xs) (hA : BytesAt w a ys) (hn : a = none → d = 0) (hl : xs.length + ys.length ≤ 1099511627776) (hB : B ≤ w.heap.size) :
    ∃ v' w', (Builtin.append_ #[22, 22] ty #[.slice A xs.length c, .slice a ys.length d]).run Tryd.prog w = .ok v' w' ∧ OwnB w' B v' (xs ++ ys) ∧ w.grownBy w' (Value.slice A xs.length c).ownBlock ∧ Ownish w (Value.slice A xs.length c).ownBlock v'.ownBlock := by
  obtain ⟨i, hi, hz, hs, hby⟩ := info_byte
  obtain ⟨v', w', hr, h2, h3, h4⟩ := append_src Tryd.underlying22 hi hz hs hby rfl (by decide) ty ho a ys.length d (ys.map (Value.int .u8)) (bytes_src hA hn) (by simp) (map_one ys) (by unfold maxLen; omega) (by omega) hB
  refine ⟨v', w', hr, ?_, h3, ?_⟩
  · unfold OwnB
    rw [List.length_append, List.map_append]
    exact h2
  · rcases h4 with e | e
    · exact .inl e
    · exact .inr ⟨_, e, Nat.le_refl _⟩
/-- append of some bytes as they stand in the text -/
theorem append_lit (ty : TypeId) (B : Nat) (A : Option Addr) (c : Nat) (xs ys : List Int) (w : World) (ho : OwnB w B (.slice A xs.length c) xs) (hl : xs.length + ys.length ≤ 1099511627776) (hB : B ≤ w.heap.size) :
    ∃ w1 v' w', w.alloc (.cells ((ys.map (Value.int .u8)).toArray) 5) = w1 ∧ (Builtin.append_ #[22, 22] ty #[.slice A xs.length c, .slice (some ⟨w.heap.size, 0, none⟩) ys.length ys.length]).run Tryd.prog w1 = .ok v' w' ∧ OwnB w' B v' (xs ++ ys) ∧ w.grownBy w' (Value.slice A xs.length c).ownBlock ∧ Ownish w (Value.slice A xs.length c).ownBlock v'.ownBlock := by
  have hg : ∀ r, w.grownBy (w.alloc (.cells ((ys.map (Value.int .u8)).toArray) 5)) r := fun r => World.grownBy_alloc _ _ r
  have ho1 : OwnB (w.alloc (.cells ((ys.map (Value.int .u8)).toArray) 5)) B (.slice A xs.length c) xs := World.ownsRow.kept ho (hg none) (by cases (Value.slice A xs.length c).ownBlock <;> simp)
  have hA : BytesAt (w.alloc (.cells ((ys.map (Value.int .u8)).toArray) 5)) (some ⟨w.heap.size, 0, none⟩) ys := by
    refine .inr ⟨w.heap.size, 0, rfl, by simp, fun i x hx => ?_⟩
    rw [Nat.zero_add]
    exact blk_cell (World.alloc_heap_new w _) (by simp [hx])
  obtain ⟨v', w', hr, h2, h3, h4⟩ := append_row ty B A c xs ys (some ⟨w.heap.size, 0, none⟩) ys.length _ ho1 hA (fun e => by cases e) hl (by simp; omega)
  exact ⟨_, v', w', rfl, hr, h2, grown_trans (hg _) h3, ish_trans (.inl rfl) (by simp) h4⟩

/-- what a piece's writer holds: the row in its box, the leaf in another -/
structure PcS (w0 W : World) (B gb gl : Nat) (r0 : Option Nat) (cs : Array Value) (v : Value) (ys : List Int) : Prop where
  box : Boxed W gb 22 v
  own : OwnB W B v ys
  grown : w0.grownBy W r0
  ish : Ownish w0 r0 v.ownBlock
  leaf : W.heap[gl]? = some (.cells cs 45 (0, 0))
  hgb : w0.heap.size ≤ gb
  hgl : w0.heap.size ≤ gl
  ne : gl ≠ gb
theorem PcS.size {w0 W : World} {B gb gl : Nat} {r0 : Option Nat} {cs : Array Value} {v : Value} {ys : List Int} (h : PcS w0 W B gb gl r0 cs v ys) : w0.heap.size ≤ W.heap.size := h.grown.size
theorem PcS.form {w0 W : World} {B gb gl : Nat} {r0 : Option Nat} {cs : Array Value} {v : Value} {ys : List Int} (h : PcS w0 W B gb gl r0 cs v ys) : ∃ a d, v = .slice a ys.length d := h.own.form
/-- what the row's appends and new blocks leave -/
theorem PcS.keep {w0 W W1 : World} {B gb gl : Nat} {r0 : Option Nat} {cs : Array Value} {v : Value} {ys : List Int} (h : PcS w0 W B gb gl r0 cs v ys) (q : W.grownBy W1 v.ownBlock) : Boxed W1 gb 22 v ∧ W1.heap[gl]? = some (.cells cs 45 (0, 0)) ∧ w0.grownBy W1 r0 := by
  refine ⟨h.box.kept q (own_ne3 h.own h.box (by decide)), ?_, grown_ish h.grown q h.ish⟩
  exact (q.block gl (Array.getElem?_eq_some_iff.1 h.leaf).1 (own_ne3 h.own h.leaf (by decide))).trans h.leaf
theorem PcS.step {w0 W W1 : World} {B gb gl : Nat} {r0 : Option Nat} {cs : Array Value} {v v1 : Value} {ys zs : List Int} (h : PcS w0 W B gb gl r0 cs v ys) (q : W.grownBy W1 v.ownBlock) (O : OwnB W1 B v1 zs) (hi : Ownish W v.ownBlock v1.ownBlock) :
    ∃ W2, W1.setCell ⟨gb, 0, none⟩ v1 = W2 ∧ PcS w0 W2 B gb gl r0 cs v1 zs := by
  obtain ⟨k1, k2, k3⟩ := h.keep q
  have g2 := grownBy_setCell' W1 gb v1
  refine ⟨_, rfl, k1.set v1, ?_, grown_own k3 g2 (fun i e => by injection e with e; have := h.hgb; omega), ish_trans h.ish h.size hi, ?_, h.hgb, h.hgl, h.ne⟩
  · exact own_grown O g2 k1 (by decide)
  · exact (g2.block gl (Array.getElem?_eq_some_iff.1 k2).1 (fun e => by injection e with e; exact h.ne e)).trans k2
theorem PcS.more {w0 W W1 : World} {B gb gl : Nat} {r0 : Option Nat} {cs : Array Value} {v : Value} {ys : List Int} (h : PcS w0 W B gb gl r0 cs v ys) {row : Option Nat} (q : W.grownBy W1 row) (hn : ∀ r, row = some r → w0.heap.size ≤ r ∧ r ≠ gb ∧ r ≠ gl ∧ v.ownBlock ≠ some r) : PcS w0 W1 B gb gl r0 cs v ys := by
  refine ⟨h.box.kept q (fun e => (hn _ e.symm).2.1 rfl), World.ownsRow.kept h.own q ?_, grown_own h.grown q (fun i e => (hn i e).1), h.ish, ?_, h.hgb, h.hgl, h.ne⟩
  · cases hv : v.ownBlock with
    | none => exact .inl rfl
    | some r => exact .inr (fun e => (hn r e.symm).2.2.2 hv)
  · exact (q.block gl (Array.getElem?_eq_some_iff.1 h.leaf).1 (fun e => (hn _ e.symm).2.2.1 rfl)).trans h.leaf
/-- a step of the loop over an iterator leaves it -/
theorem PcS.walk {w0 W W1 : World} {B gb gl : Nat} {r0 : Option Nat} {cs : Array Value} {v : Value} {ys : List Int} (h : PcS w0 W B gb gl r0 cs v ys) {row : Option Nat} (q : W.grownBy W1 row) (hn : ∀ r, row = some r → w0.heap.size ≤ r ∧ ∃ o : Obj, W.heap[r]? = some o ∧ o.isCells = false) : PcS w0 W1 B gb gl r0 cs v ys := by
  refine h.more q (fun r e => ?_)
  obtain ⟨h1, o, ho, hc⟩ := hn r e
  refine ⟨h1, fun e2 => ?_, fun e2 => ?_, fun e2 => ?_⟩
  · subst e2
    have hb : W.heap[r]? = _ := h.box
    rw [hb] at ho; injection ho with ho; subst ho; cases hc
  · subst e2
    rw [h.leaf] at ho; injection ho with ho; subst ho; cases hc
  · rcases h.own.2 with ⟨rfl, _⟩ | ⟨g', cap, cur, rfl, _, hgb', _⟩
    · cases e2
    · have : g' = r := by simpa [Value.ownBlock] using e2
      subst this
      rw [hgb'] at ho; injection ho with ho; subst ho; cases hc
/-- what an append and a store leave of the iterator's blocks and of whatever is no cells -/
theorem PcS.turns {w0 W W1 : World} {B gb gl : Nat} {r0 : Option Nat} {cs : Array Value} {v : Value} {ys : List Int} (h : PcS w0 W B gb gl r0 cs v ys) (q : W.grownBy W1 v.ownBlock) (v1 : Value) (hB0 : 0 < B) (hBw : B ≤ w0.heap.size)
    {gi : Nat} {x : Value} (hi : Boxed W gi 22 x) (hne : gi ≠ gb) {da : Option Addr} (hdB : ∀ a, da = some a → a.block < B) (B0 : Nat) :
    KeepsFrom B0 W (W1.setCell ⟨gb, 0, none⟩ v1) ∧ (W1.setCell ⟨gb, 0, none⟩ v1).heap[0]? = W.heap[0]? ∧ (W1.setCell ⟨gb, 0, none⟩ v1).heap[gi]? = W.heap[gi]? ∧ ∀ a, da = some a → (W1.setCell ⟨gb, 0, none⟩ v1).heap[a.block]? = W.heap[a.block]? := by
  have g2 := grownBy_setCell' W1 gb v1
  have hgb := h.hgb
  have hsz := h.size
  have blk : ∀ k, k < W.heap.size → some k ≠ v.ownBlock → k ≠ gb → (W1.setCell ⟨gb, 0, none⟩ v1).heap[k]? = W.heap[k]? := fun k hk h1 h2 =>
    (g2.block k (Nat.lt_of_lt_of_le hk q.size) (fun e => h2 (by injection e))).trans (q.block k hk h1)
  have low : ∀ k, k < B → some k ≠ v.ownBlock := fun k hk e => by
    have := (World.ownsRow.lt h.own k e.symm).1
    omega
  refine ⟨?_, blk 0 (by omega) (low 0 hB0) (by omega), blk gi hi.lt (own_ne3 h.own hi (by decide)) hne, fun a e => blk a.block (by have := hdB a e; omega) (low _ (hdB a e)) (by have := hdB a e; omega)⟩
  refine KeepsOthers.from (KeepsOthers.trans (KeepsOthers.of_grownBy q (fun j o e ho => ?_)) (KeepsOthers.setCell _ _ _)) B0
  rcases h.own.2 with ⟨rfl, _⟩ | ⟨g', cap, cur, rfl, _, hgb', _⟩
  · cases e
  · have : g' = j := by simpa [Value.ownBlock] using e
    subst this
    rw [hgb'] at ho; injection ho with ho; subst ho; rfl
end Go.Proofs.YtlnaeppbhjmocaaDoor
set_option linter.unusedSimpArgs false
set_option linter.unusedVariables false
namespace Go.Proofs.YtlnaeppbhjmocaaDoor
open Go.RowKit Go.Proofs Go.Shelf
attribute [local go_sem] Oper.semAt_some

/-- the iterator's three variables, from block b on: the text that is left, the separator, what is kept of it -/
structure Sbox (W : World) (b : Nat) (s : List UInt8) : Prop where
  text : Boxed W b 9 (.string ⟨s.toArray⟩)
  sep : Boxed W (b + 1) 9 (.string ⟨#[47]⟩)
  save : Boxed W (b + 2) 3 (.int .i64 0)
/-- three blocks lie as they lay -/
def Keep3 (b : Nat) (W W' : World) : Prop := ∀ k, b ≤ k → k < b + 3 → W'.heap[k]? = W.heap[k]?
theorem Keep3.trans {b : Nat} {A B C : World} (h : Keep3 b A B) (k : Keep3 b B C) : Keep3 b A C := fun i h1 h2 => (k i h1 h2).trans (h i h1 h2)
theorem Keep3.refl (b : Nat) (A : World) : Keep3 b A A := fun _ _ _ => rfl
theorem Sbox.keep {W W' : World} {b : Nat} {s : List UInt8} (h : Sbox W b s) (k : Keep3 b W W') : Sbox W' b s :=
  ⟨(k b (by omega) (by omega)).trans h.text, (k (b + 1) (by omega) (by omega)).trans h.sep, (k (b + 2) (by omega) (by omega)).trans h.save⟩
theorem Sbox.set {W : World} {b : Nat} {s : List UInt8} (h : Sbox W b s) (t : List UInt8) : Sbox (W.setCell ⟨b, 0, none⟩ (.string ⟨t.toArray⟩)) b t :=
  ⟨h.text.set _, h.sep.other (by omega) _, h.save.other (by omega) _⟩
theorem Sbox.grown {W W' : World} {b : Nat} {s : List UInt8} (h : Sbox W b s) (g : W.grownBy W' none) : Sbox W' b s :=
  ⟨h.text.kept g (by simp), h.sep.kept g (by simp), h.save.kept g (by simp)⟩
/-- how much text is left, read off the world -/
def leftT (W : World) (b : Nat) : Nat := match W.cell? ⟨b, 0, none⟩ with
  | some (.string t) => t.size
  | _ => 0
theorem leftT_eq {W : World} {b : Nat} {s : List UInt8} (h : Sbox W b s) : leftT W b = s.length := by
  unfold leftT
  rw [h.text.cell]
  rfl
theorem cut_to (s : List UInt8) (o : Nat) : (⟨s.toArray⟩ : ByteArray).extract 0 o = ⟨(s.take o).toArray⟩ := by
  apply ByteArray.ext
  rw [ByteArray.data_extract]
  simp
theorem cut_from (s : List UInt8) (o : Nat) (h : o ≤ s.length) : (⟨s.toArray⟩ : ByteArray).extract o s.length = ⟨(s.drop o).toArray⟩ := by
  apply ByteArray.ext
  rw [ByteArray.data_extract]
  simp [List.take_of_length_le]

set_option maxRecDepth 100000 in
set_option maxHeartbeats 3200000 in
theorem splitC_gives (n b : Nat) (hn : 2 ≤ n) (s : List UInt8) (hs : s.length ≤ 1048576) (w : World) (h : Sbox w b s) :
    Gives Fence.wide n Tryd.prog 107 #[.pointer (some ⟨b + 1, 0, none⟩), .pointer (some ⟨b, 0, none⟩), .pointer (some ⟨b + 2, 0, none⟩)] (fun x : List UInt8 => #[.string ⟨x.toArray⟩]) (Keep3 b) (fun r => r = b) (cutsL [] s) w := by
  intro l J W hW hJ hY h0
  have hB := h.grown hW
  have hro : Fence.wide.round = none := rfl
  have h1 : 1 ≤ n := by omega
  have hf : Fence.wide.fn 99 := trivial
  refine callsIn_of_wp Tryd.func107 rfl trivial ?_ hro
  simp only [Tryd.ntmps107, List.size_toArray, List.length_cons, List.length_nil, Nat.reduceAdd, Nat.reduceSub, Array.replicate_succ, Array.replicate_zero, List.push_toArray, List.append_toArray, List.nil_append, List.cons_append]
  have c0 := hB.text.cell
  have c1 := hB.sep.cell
  have c2 := hB.save.cell
  gi_wp2
  gi_loopw [] (fun wr => ∃ (pre : List (List UInt8)) (t : List UInt8), Hid (Sbox wr b t) ∧ Hid (cutsL [] s = pre ++ cutsL [] t) ∧ t.length ≤ 1048576 ∧ Hid (J pre wr)) (fun wr => leftT wr b)
  case atStart => exact ⟨[], s, Lib.hid hB, Lib.hid rfl, hs, Lib.hid h0⟩
  case round =>
    obtain ⟨pre, t, HS, HC, ht, HJ⟩ := hrel
    have c0 := HS.out.text.cell
    have c1 := HS.out.sep.cell
    have c2 := HS.out.save.cell
    rcases ix_or t with hx | ⟨o, hx⟩
    · have CI : ∀ W, Calls Tryd.prog 99 #[.string ⟨t.toArray⟩, .string ⟨#[47]⟩] W fun e w' => e = .returned (.int .i64 (-1)) ∧ w' = W := fun W => by
        have h := Tryd.strings_Index_one ⟨t.toArray⟩ 47 W
        rwa [show (⟨t.toArray⟩ : ByteArray).data.toList = t from by simp, hx] at h
      have hcut := HC.out
      rw [cuts_ix_no hx] at hcut
      obtain ⟨fn, tmps, assign, body, hy, hR⟩ := hY pre t [] wr hcut HJ.out
      clear hY
      gi_wp2_with (gi_at_call 99; refine (callsIn_wide.2 (CI _)).mono ?_; rintro e wq ⟨rfl, rfl⟩)
      refine hR.mono ?_
      rintro e W' ⟨rfl, hJ', hk⟩
      gi_wp2
      go_end0
      refine ⟨⟨_, rfl⟩, ?_⟩
      rw [hcut]
      exact hJ'
    · have ho := (ix_at hx).1
      have CI : ∀ W, Calls Tryd.prog 99 #[.string ⟨t.toArray⟩, .string ⟨#[47]⟩] W fun e w' => e = .returned (.int .i64 (o : Int)) ∧ w' = W := fun W => by
        have h := Tryd.strings_Index_one ⟨t.toArray⟩ 47 W
        rwa [show (⟨t.toArray⟩ : ByteArray).data.toList = t from by simp, hx] at h
      have hcut := HC.out
      rw [cuts_ix hx] at hcut
      obtain ⟨fn, tmps, assign, body, hy, hR⟩ := hY pre (t.take o) (cutsL [] (t.drop (o + 1))) wr hcut HJ.out
      clear hY
      have hw0 : IntKind.i64.wrap ((o : Int) + 0) = (o : Int) := by rw [Int.add_zero]; exact IntWalk.i64_in _ ⟨by omega, by omega⟩
      have hw1 : IntKind.i64.wrap ((o : Int) + 1) = ((o + 1 : Nat) : Int) := by rw [IntWalk.i64_in _ ⟨by omega, by omega⟩]; omega
      have hl1 : (0 : Int) ≤ (o : Int) := by omega
      have hl2 : (o : Int) ≤ (t.length : Int) := by omega
      have hl3 : (0 : Int) ≤ ((o + 1 : Nat) : Int) := by omega
      have hl4 : ((o + 1 : Nat) : Int) ≤ (t.length : Int) := by omega
      have hct := cut_to t o
      have hcf := cut_from t (o + 1) (by omega)
      gi_wp2_with (gi_at_call 99; refine (callsIn_wide.2 (CI _)).mono ?_; rintro e wq ⟨rfl, rfl⟩)
      refine hR.mono ?_
      rintro e W' ⟨rfl, hJ', hk⟩
      have HS' := HS.out.keep hk
      replace c0 := HS'.text.cell
      replace c1 := HS'.sep.cell
      have z0 := HS'.text.frozen
      gi_wp2
      go_roundw
      case rel => exact ⟨pre ++ [t.take o], t.drop (o + 1), Lib.hid (HS'.set _), Lib.hid (by rw [List.append_assoc]; exact hcut), by rw [List.length_drop]; omega, Lib.hid (hJ _ _ _ (some b) hJ' (grownBy_setCell' W' b _) (fun r e => by cases e; rfl))⟩
      case measure =>
        rw [leftT_eq (HS'.set _), leftT_eq HS.out, List.length_drop]
        omega

set_option maxRecDepth 100000 in
theorem splitSeq_any (s : List UInt8) (w : World) :
    Calls Tryd.prog 90 #[.string ⟨s.toArray⟩, .string ⟨#[47]⟩] w fun e w' => e = .returned (.func (.func 107) #[] #[.pointer (some ⟨w.heap.size + 1, 0, none⟩), .pointer (some ⟨w.heap.size, 0, none⟩), .pointer (some ⟨w.heap.size + 2, 0, none⟩)]) ∧ w.grownBy w' none ∧ w'.heap.size = w.heap.size + 3 ∧ Sbox w' w.heap.size s := by
  obtain ⟨g, hg⟩ : ∃ g, w.heap.size = g := ⟨_, rfl⟩
  obtain ⟨w1, hw1⟩ : ∃ w1, w.alloc (.cells #[.string ⟨s.toArray⟩] 9) = w1 := ⟨_, rfl⟩
  obtain ⟨w2, hw2⟩ : ∃ w2, w1.alloc (.cells #[.string ⟨#[47]⟩] 9) = w2 := ⟨_, rfl⟩
  obtain ⟨w3, hw3⟩ : ∃ w3, w2.alloc (.cells #[.int .i64 0] 3) = w3 := ⟨_, rfl⟩
  have hg1 : w1.heap.size = g + 1 := by rw [← hw1]; simp [hg]
  have hg2 : w2.heap.size = g + 2 := by rw [← hw2]; simp [hg1]
  have hg3 : w3.heap.size = g + 3 := by rw [← hw3]; simp [hg2]
  have G1 : w.grownBy w1 none := by rw [← hw1]; exact World.grownBy_alloc _ _ none
  have G2 : w1.grownBy w2 none := by rw [← hw2]; exact World.grownBy_alloc _ _ none
  have G3 : w2.grownBy w3 none := by rw [← hw3]; exact World.grownBy_alloc _ _ none
  have B1 : Boxed w1 g 9 (.string ⟨s.toArray⟩) := by rw [← hw1, ← hg]; exact Boxed.new _ _ _
  have B2 : Boxed w2 (g + 1) 9 (.string ⟨#[47]⟩) := by rw [← hw2, ← hg1]; exact Boxed.new _ _ _
  have B3 : Boxed w3 (g + 2) 3 (.int .i64 0) := by rw [← hw3, ← hg2]; exact Boxed.new _ _ _
  have HF := Lib.hid (And.intro (grown_trans (grown_trans G1 G2) G3) (And.intro hg3 (Sbox.mk ((B1.kept G2 (by simp)).kept G3 (by simp)) (B2.kept G3 (by simp)) B3)))
  clear G1 G2 G3 B1 B2 B3
  have CS : Calls Tryd.prog 100 #[.string ⟨s.toArray⟩, .string ⟨#[47]⟩, .int .i64 0] w fun e w' => e = .returned (.func (.func 107) #[] #[.pointer (some ⟨g + 1, 0, none⟩), .pointer (some ⟨g, 0, none⟩), .pointer (some ⟨g + 2, 0, none⟩)]) ∧ w' = w3 := by
    go_enter Tryd.func100, Tryd.ntmps100
    go_wp2_with fail
    exact ⟨rfl, _, results_tmp rfl _ _ _, rfl, rfl⟩
  go_enter Tryd.func90, Tryd.ntmps90
  go_wp2_with (first
    | (go_at_call 100; refine CS.mono ?_; rintro e wq ⟨rfl, rfl⟩))
  exact ⟨rfl, _, results_tmp rfl _ _ _, by rw [hg]; rfl, by rw [hg]; exact HF.out⟩
end Go.Proofs.YtlnaeppbhjmocaaDoor
set_option linter.unusedSimpArgs false
set_option linter.unusedVariables false
namespace Go.Proofs.YtlnaeppbhjmocaaDoor
open Go.RowKit Go.Proofs Go.Shelf
attribute [local go_sem] Oper.semAt_some

theorem ok_keep {W W' : World} (h : Ok W) (k : W'.heap[0]? = W.heap[0]?) : Ok W' := by
  refine ⟨?_⟩
  have := h.fours
  unfold World.var? at this ⊢
  rw [gFours] at this ⊢
  simp only [Option.bind_some] at this ⊢
  rw [k]; exact this
/-- a round keeps the tables, the iterator's variable and the data's block -/
def KeepD (b : Nat) (A : Option Addr) (W W' : World) : Prop := W'.heap[0]? = W.heap[0]? ∧ W'.heap[b]? = W.heap[b]? ∧ ∀ a, A = some a → W'.heap[a.block]? = W.heap[a.block]?
theorem KeepD.trans {b : Nat} {A : Option Addr} {X Y Z : World} (h : KeepD b A X Y) (k : KeepD b A Y Z) : KeepD b A X Z := ⟨k.1.trans h.1, k.2.1.trans h.2.1, fun a e => (k.2.2 a e).trans (h.2.2 a e)⟩
theorem cell_same {W W' : World} {g : Nat} (h : W'.heap[g]? = W.heap[g]?) (o : Nat) : W'.cell? ⟨g, o, none⟩ = W.cell? ⟨g, o, none⟩ := by
  unfold World.cell?
  simp only [h]
/-- where the data lie, if there are any -/
def datA (L : List Int) (A : Option Addr) : Option Addr := if L = [] then none else A
theorem BytesAt.keepD {b : Nat} {A : Option Addr} {L : List Int} {W W' : World} (h : BytesAt W A L) (k : KeepD b (datA L A) W W') : BytesAt W' A L := by
  by_cases hL : L = []
  · exact .inl hL
  · unfold datA at k
    rw [if_neg hL] at k
    rcases h with h | ⟨g, o, hA, hg, h⟩
    · exact .inl h
    · have hk := k.2.2 _ hA
      refine .inr ⟨g, o, hA, ?_, fun i x hx => (cell_same hk _).trans (h i x hx)⟩
      rw [Array.getElem?_eq_getElem hg] at hk
      exact (Array.getElem?_eq_some_iff.1 hk).1
theorem fr_none {W W' : World} (q : Fr W W') : W.grownBy W' none := ⟨q.below.os, q.below.tape, q.below.output, q.below.size, fun k hk _ => q.below.block k hk⟩

set_option maxRecDepth 100000 in
set_option maxHeartbeats 3200000 in
theorem stretC_gives (n b : Nat) (hn : 2 ≤ n) (A : Option Addr) (c : Nat) (L : List Int) (hc : L.length ≤ c) (hL : L.length ≤ 1073741824) (w : World) (hw : Ok w) (h : Boxed w b 22 (.slice A L.length c)) (hA : BytesAt w A L) :
    Gives Fence.wide n Tryd.prog 78 #[.pointer (some ⟨b, 0, none⟩)] (fun x : Nat × Nat × Nat => #[.agg #[.int .i64 x.1, .int .i64 x.2.1, .int .i64 x.2.2]]) (KeepD b (datA L A)) (fun _ => False) (stretX L) w := by
  intro l J W hW hJ hY h0
  have hro : Fence.wide.round = none := rfl
  have h1 : 1 ≤ n := by omega
  have hf : Fence.wide.fn 79 := trivial
  refine callsIn_of_wp Tryd.func78 rfl trivial ?_ hro
  simp only [Tryd.ntmps78, List.size_toArray, List.length_cons, List.length_nil, Nat.reduceAdd, Nat.reduceSub, Array.replicate_succ, Array.replicate_zero, List.push_toArray, List.append_toArray, List.nil_append, List.cons_append]
  gi_wp2
  gi_loopw [3] (fun p wr => ∃ (pre : List (Nat × Nat × Nat)) (i : Nat), p = .int .i64 i ∧ i ≤ L.length ∧ Hid (Boxed wr b 22 (.slice A L.length c)) ∧ Hid (BytesAt wr A L) ∧ Hid (Ok wr) ∧ Hid (stretX L = pre ++ stretS L L.length i) ∧ Hid (J pre wr)) (fun p wr => L.length - (intOf p).toNat)
  case atStart => exact ⟨[], 0, rfl, Nat.zero_le _, Lib.hid (h.kept hW (by simp)), Lib.hid (hA.grown hW (fun a e => by simp)), Lib.hid (Ok.below hw ⟨hW.os, hW.tape, hW.output, hW.size, fun k hk => hW.block k hk (by simp)⟩), Lib.hid rfl, Lib.hid h0⟩
  case round =>
    obtain ⟨pre, i, rfl, hi, HB, HA, HO, HC, HJ⟩ := hrel
    have c0 := HB.out.cell
    by_cases hlt : i < L.length
    · have d0 : (i : Int) < (L.length : Int) := by omega
      have hbd := nhL_bounds (L.drop i) 0 i (by omega)
      have hb5 := hbd.2.2.2.2 (by omega) (fun e => by have := congrArg List.length e; simp at this; omega)
      have hnx := nextHole_val A c L i hi hc hL wr HO.out HA.out
      obtain ⟨L', hL'⟩ : ∃ m, L.length = m + 1 := ⟨L.length - 1, by omega⟩
      have hst := HC.out
      rw [hL', stretS, if_pos hlt] at hst
      obtain ⟨⟨f, t⟩, hft⟩ : ∃ q, nhL (L.drop i) 0 i = q := ⟨_, rfl⟩
      rw [hft] at hbd hb5 hnx hst
      rw [stretS_more L L' L.length t (by dsimp only at hb5; omega) (by omega)] at hst
      dsimp only at hbd hb5 hnx hst
      rw [List.length_drop] at hbd
      have HST := Lib.hid hst
      have HNX := Lib.hid hnx
      obtain ⟨m1, hm1⟩ : ∃ m, f - i = m := ⟨_, rfl⟩
      obtain ⟨m2, hm2⟩ : ∃ m, t - f = m := ⟨_, rfl⟩
      have hw1 : IntKind.i64.wrap ((f : Int) - (i : Int)) = (m1 : Int) := by rw [IntWalk.i64_in _ ⟨by omega, by omega⟩]; omega
      have hw2 : IntKind.i64.wrap ((t : Int) - (f : Int)) = (m2 : Int) := by rw [IntWalk.i64_in _ ⟨by omega, by omega⟩]; omega
      have HBD := Lib.hid (And.intro hbd hb5)
      have HM := Lib.hid (And.intro hm1 hm2)
      clear hst hnx hft hm1 hm2 hbd hb5 c0 hL'
      have c0 := HB.out.cell
      have HY := Lib.hid hY
      clear hY
      have d3 : ∀ W', wr.grownBy W' none → J pre W' := fun W' g => hJ _ _ _ none HJ.out g (fun r e => by cases e)
      have HJ2 := Lib.hid d3
      clear d3
      by_cases hif : i < f
      · have d1 : (i : Int) < (f : Int) := by omega
        by_cases hft : f < t
        · have d2 : (f : Int) < (t : Int) := by omega
          have hst := HST.out
          rw [if_pos hif, if_pos hft, List.singleton_append, List.singleton_append, HM.out.1, HM.out.2] at hst
          have HS2 := Lib.hid hst
          clear hst HM
          gi_wp2_with (gi_at_call 79; refine (callsIn_wide.2 HNX.out).mono ?_; rintro e wq ⟨rfl, q⟩; go_loud (obtain ⟨fn, tmps, assign, body, hy, hR⟩ := HY.out pre (1, i, m1) _ wq HS2.out (HJ2.out _ (fr_none q))); dsimp only at hy; rw [show ((1 : Nat) : Int) = 1 from rfl] at hy)
          refine hR.mono ?_
          rintro e W1 ⟨rfl, hJ1, hk⟩
          clear hy
          obtain ⟨fn, tmps, assign, body, hy, hR⟩ := HY.out (pre ++ [(1, i, m1)]) (0, f, m2) _ W1 (by simp only [List.append_assoc, List.cons_append, List.nil_append]; exact HS2.out) hJ1
          dsimp only at hy
          rw [show ((0 : Nat) : Int) = 0 from rfl] at hy
          gi_wp2
          refine hR.mono ?_
          rintro e W2 ⟨rfl, hJ2, hk2⟩
          clear hy
          replace hk := hk.trans hk2
          have hB1 := hk.2.1.trans (HB.out.kept (fr_none q) (by simp))
          have hA1 := (HA.out.fr q).keepD hk
          have hO1 := ok_keep q.ok hk.1
          gi_wp2
          go_roundw
          case rel => exact ⟨pre ++ [(1, i, m1)] ++ [(0, f, m2)], t, rfl, by have := HBD.out; omega, Lib.hid (hB1), Lib.hid (hA1), Lib.hid (hO1), Lib.hid (by simp only [List.append_assoc, List.cons_append, List.nil_append]; exact HS2.out), Lib.hid hJ2⟩
          case measure => have := HBD.out; simp only [intOf, Int.toNat_natCast]; omega
        · have d2 : (t : Int) ≤ (f : Int) := by omega
          have hst := HST.out
          rw [if_pos hif, if_neg hft, List.singleton_append, List.nil_append, HM.out.1] at hst
          have HS2 := Lib.hid hst
          clear hst HM
          gi_wp2_with (gi_at_call 79; refine (callsIn_wide.2 HNX.out).mono ?_; rintro e wq ⟨rfl, q⟩; go_loud (obtain ⟨fn, tmps, assign, body, hy, hR⟩ := HY.out pre (1, i, m1) _ wq HS2.out (HJ2.out _ (fr_none q))); dsimp only at hy; rw [show ((1 : Nat) : Int) = 1 from rfl] at hy)
          refine hR.mono ?_
          rintro e W1 ⟨rfl, hJ2, hk⟩
          clear hy
          have hB1 := hk.2.1.trans (HB.out.kept (fr_none q) (by simp))
          have hA1 := (HA.out.fr q).keepD hk
          have hO1 := ok_keep q.ok hk.1
          gi_wp2_with (with_reducible refine ⟨fun _ h => (by cases h), ?_⟩)
          go_roundw
          case rel => exact ⟨pre ++ [(1, i, m1)], t, rfl, by have := HBD.out; omega, Lib.hid (hB1), Lib.hid (hA1), Lib.hid (hO1), Lib.hid (by simp only [List.append_assoc, List.cons_append, List.nil_append]; exact HS2.out), Lib.hid hJ2⟩
          case measure => have := HBD.out; simp only [intOf, Int.toNat_natCast]; omega
      · have d1 : (f : Int) ≤ (i : Int) := by omega
        have hft : f < t := by have := HBD.out; omega
        have d2 : (f : Int) < (t : Int) := by omega
        have hst := HST.out
        rw [if_neg hif, if_pos hft, List.nil_append, List.singleton_append, HM.out.2] at hst
        have HS2 := Lib.hid hst
        clear hst HM
        gi_wp2_with (first | (gi_at_call 79; refine (callsIn_wide.2 HNX.out).mono ?_; rintro e wq ⟨rfl, q⟩; go_loud (obtain ⟨fn, tmps, assign, body, hy, hR⟩ := HY.out pre (0, f, m2) _ wq HS2.out (HJ2.out _ (fr_none q))); dsimp only at hy; rw [show ((0 : Nat) : Int) = 0 from rfl] at hy) | (with_reducible refine ⟨fun _ h => (by cases h), ?_⟩))
        refine hR.mono ?_
        rintro e W1 ⟨rfl, hJ2, hk⟩
        clear hy
        have hB1 := hk.2.1.trans (HB.out.kept (fr_none q) (by simp))
        have hA1 := (HA.out.fr q).keepD hk
        have hO1 := ok_keep q.ok hk.1
        gi_wp2
        go_roundw
        case rel => exact ⟨pre ++ [(0, f, m2)], t, rfl, by have := HBD.out; omega, Lib.hid (hB1), Lib.hid (hA1), Lib.hid (hO1), Lib.hid (by simp only [List.append_assoc, List.cons_append, List.nil_append]; exact HS2.out), Lib.hid hJ2⟩
        case measure => have := HBD.out; simp only [intOf, Int.toNat_natCast]; omega
    · have d0 : (L.length : Int) ≤ (i : Int) := by omega
      have hst := HC.out
      rw [stretS_more L L.length 0 i (by omega) (by omega), stretS, List.append_nil] at hst
      gi_wp2
      go_end0
      exact ⟨⟨_, rfl⟩, by rw [hst]; exact HJ.out⟩

set_option maxRecDepth 100000 in
theorem stretches_any (A : Option Addr) (n c : Nat) (w : World) :
    Calls Tryd.prog 65 #[.slice A n c] w fun e w' => e = .returned (.func (.func 78) #[] #[.pointer (some ⟨w.heap.size, 0, none⟩)]) ∧ w' = w.alloc (.cells #[.slice A n c] 22) := by
  obtain ⟨g, hg⟩ : ∃ g, w.heap.size = g := ⟨_, rfl⟩
  obtain ⟨w1, hw1⟩ : ∃ w1, w.alloc (.cells #[.slice A n c] 22) = w1 := ⟨_, rfl⟩
  rw [hw1, hg]
  go_enter Tryd.func65, Tryd.ntmps65
  go_wp2_with fail
  exact ⟨rfl, _, results_tmp rfl _ _ _, rfl, rfl⟩
end Go.Proofs.YtlnaeppbhjmocaaDoor
set_option linter.unusedSimpArgs false
set_option linter.unusedVariables false
namespace Go.Proofs.YtlnaeppbhjmocaaDoor
open Go.RowKit Go.Proofs

theorem long_any (x : ByteArray) (w : World) : Calls Tryd.prog 92 #[.string x] w fun e w' => e = .returned (.bool (decide ((x.size : Int) > 63))) ∧ w' = w := by
  go_enter Tryd.func92, Tryd.ntmps92
  go_wp2_with fail
  go_ret
  exact ⟨rfl, rfl⟩

set_option maxHeartbeats 1600000 in
set_option maxRecDepth 100000 in
theorem indexFunc_any (A : Option Addr) (c : Nat) (l : List ByteArray) (hl : l.length ≤ 1048577) (w : World) (hR : SRow w A l) :
    Calls Tryd.prog 101 #[.slice A l.length c, .func (.func 92) #[] #[]] w fun e w' => ∃ i : Int, e = .returned (.int .i64 i) ∧ (decide (i ≥ 0) = l.any fun x => decide (63 < x.size)) ∧ w' = w := by
  have HR := Lib.hid hR
  clear hR
  go_enter Tryd.func101, Tryd.ntmps101
  go_wp2_with fail
  go_loopg [8] l.length (fun k v8 wc => ∃ i : Nat, i + k = l.length ∧ v8 = .int .i64 i ∧ wc = w ∧ Hid (∀ j (h : j < l.length), j < i → l[j].size ≤ 63))
  case atStart => exact ⟨0, by omega, rfl, rfl, Lib.hid (fun j h hj => by omega)⟩
  case round =>
    obtain ⟨i, hik, rfl, rfl, HN⟩ := hrel
    cases gk with
    | zero =>
      obtain rfl : i = l.length := by omega
      go_wp2_with fail
      go_ret
      refine ⟨-1, rfl, ?_, rfl⟩
      have : (l.any fun x => decide (63 < x.size)) = false := by
        rw [List.any_eq_false]
        intro x hx
        obtain ⟨j, hj, rfl⟩ := List.mem_iff_getElem.mp hx
        have := HN.out j hj hj
        simp; omega
      rw [this]
      rfl
    | succ k =>
      have hi : i < l.length := by omega
      obtain ⟨g, rfl, hc⟩ := HR.out i hi
      obtain ⟨x, hx⟩ : ∃ x, l[i] = x := ⟨_, rfl⟩
      rw [hx] at hc
      obtain ⟨bb, hbb⟩ : ∃ b, decide ((x.size : Int) > 63) = b := ⟨_, rfl⟩
      have CL : Calls Tryd.prog 92 #[.string x] wr fun e w' => e = .returned (.bool bb) ∧ w' = wr := by rw [← hbb]; exact long_any x wr
      have HB := Lib.hid hbb
      have HX := Lib.hid hx
      clear hbb hx
      have d0 : (0 : Int) ≤ (i : Int) := by omega
      have d1 : (i : Int) < (l.length : Int) := by omega
      cases bb with
      | true =>
        go_wp2_with (first
          | (go_at_call 92; refine CL.mono ?_; rintro e wq ⟨rfl, rfl⟩))
        go_ret
        refine ⟨i, rfl, ?_, rfl⟩
        have : (l.any fun x => decide (63 < x.size)) = true := by
          rw [List.any_eq_true]
          refine ⟨x, by rw [← HX.out]; exact List.getElem_mem _, ?_⟩
          have := of_decide_eq_true HB.out
          simp; omega
        rw [this]
        simp
      | false =>
        go_wp2_with (first
          | (go_at_call 92; refine CL.mono ?_; rintro e wq ⟨rfl, rfl⟩))
        go_roundg k
        case measure => omega
        case rel =>
          refine ⟨i + 1, by omega, by go_num, rfl, Lib.hid fun j hj hji => ?_⟩
          by_cases h : j = i
          · subst h
            have := of_decide_eq_false HB.out
            rw [HX.out]
            omega
          · exact HN.out j hj (by omega)

theorem contains_any (A : Option Addr) (c : Nat) (l : List ByteArray) (hl : l.length ≤ 1048577) (w : World) (hR : SRow w A l) :
    Calls Tryd.prog 91 #[.slice A l.length c, .func (.func 92) #[] #[]] w fun e w' => e = .returned (.bool (l.any fun x => decide (63 < x.size))) ∧ w' = w := by
  obtain ⟨bb, hbb⟩ : ∃ b, (l.any fun x => decide (63 < x.size)) = b := ⟨_, rfl⟩
  have CI := indexFunc_any A c l hl w hR
  rw [hbb] at CI ⊢
  go_enter Tryd.func91, Tryd.ntmps91
  go_wp2_with (first
    | (go_at_call 101; refine CI.mono ?_; rintro e wq ⟨i, rfl, hb, rfl⟩))
  go_ret
  exact ⟨rfl, rfl⟩
end Go.Proofs.YtlnaeppbhjmocaaDoor
set_option linter.unusedSimpArgs false
set_option linter.unusedVariables false
namespace Go.Proofs.YtlnaeppbhjmocaaDoor
open Go.RowKit Go.Proofs Go.Shelf
attribute [local go_sem] Oper.semAt_some

theorem infoString : (Tryd.prog.info? 9).map (fun i => (i.zero, i.size, i.bytes)) = some (some (.string ⟨#[]⟩), 1, 16) := by kernel_rfl
/-- behind 'out = append(out, ..)', out's box lying below the row's base -/
theorem box_appended {W w1 : World} {n₀ B : Nat} {t e : TypeId} {size : Nat} {v v' : Value} {k m : Nat} {xs ys : List Value} {tmp : Obj}
    (hv : Boxed W B t v) (hrow : W.ownsRow n₀ e size v k xs) (hn₀ : n₀ ≤ W.heap.size) (hB : B < n₀)
    (hown' : w1.ownsRow n₀ e size v' m ys) (hgrow : (W.alloc tmp).grownBy w1 v.ownBlock) :
    Boxed w1 B t v ∧ Boxed (w1.setCell ⟨B, 0, none⟩ v') B t v' ∧ (w1.setCell ⟨B, 0, none⟩ v').ownsRow n₀ e size v' m ys ∧ KeepsOthers W (w1.setCell ⟨B, 0, none⟩ v') ∧ (∀ b, b ≤ B → b ≤ W.heap.size → W.grownBy w1 v.ownBlock ∧ (∀ k, v.ownBlock = some k → b ≤ k)) ∧ ∀ k, k < n₀ → k ≠ B → (w1.setCell ⟨B, 0, none⟩ v').heap[k]? = W.heap[k]? := by
  have hlt : ∀ k, v.ownBlock = some k → n₀ ≤ k := fun k e => (World.ownsRow.lt hrow k e).1
  have hlt' : ∀ k, v'.ownBlock = some k → n₀ ≤ k := fun k e => (World.ownsRow.lt hown' k e).1
  have hv1 : Boxed w1 B t v := (hv.alloc tmp).kept hgrow (fun e => by have := hlt B e.symm; omega)
  have hg0 : W.grownBy w1 v.ownBlock := ⟨hgrow.os, hgrow.tape, hgrow.output, by have := hgrow.size; simp at this; omega, fun k hk hne => (hgrow.block k (by simp; omega) hne).trans (Below.heap_alloc W tmp k hk)⟩
  refine ⟨hv1, hv1.set v', hown'.kept (grownBy_setCell' w1 B v') (.inr fun e => by have := hlt' B e; omega), ?_, fun b hb1 hb2 => ⟨hg0, fun k e => by have := hlt k e; omega⟩, fun k hk hne => ?_⟩
  · refine ((KeepsOthers.alloc W tmp).trans (KeepsOthers.of_grownBy hgrow fun j o ej hj => ?_)).trans (KeepsOthers.setCell _ _ _)
    rcases (hrow.alloc tmp).2 with ⟨rfl, _⟩ | ⟨g, cap, cur, rfl, _, hgb, _⟩
    · simp [Value.ownBlock] at ej
    · obtain rfl : g = j := by simpa [Value.ownBlock] using ej
      rw [hgb] at hj; cases hj; rfl
  · refine (Below.heap_setCell _ _ _ k (fun e => hne e)).trans (hg0.block k (by omega) (fun e => by have := hlt k e.symm; omega))
theorem SRow.none (W : World) : SRow W none [] := fun i hi => by cases hi
theorem row_S {W : World} {B : Nat} {A : Option Addr} {c : Nat} {l : List (List UInt8)} (h : W.ownsRow B 9 1 (.slice A l.length c) l.length (l.map fun x => Value.string ⟨x.toArray⟩)) : SRow W A (l.map toB) := fun i hi => by
  rw [List.length_map] at hi
  rcases h.2 with ⟨h1, h2⟩ | ⟨g, cap, cur, h1, _⟩
  · omega
  · have hA : A = some ⟨g, 0, none⟩ := by injection h1
    subst hA
    refine ⟨g, rfl, ?_⟩
    have := World.ownsRow.cellAt h i (by omega)
    rw [this, List.getElem?_map, List.getElem?_eq_getElem hi]
    simp [toB]

set_option maxRecDepth 100000 in
set_option maxHeartbeats 3200000 in
theorem pnames_any (s : List UInt8) (hs : s.length ≤ 1048576) (w : World) (hw : Ok w) :
    Calls Tryd.prog 76 #[.string ⟨s.toArray⟩] w fun e w' => ∃ A c, e = .returned (.tuple #[.slice A (namesQ s).1.length c, .int .i64 (namesQ s).2]) ∧ SRow w' A (namesQ s).1 ∧ (namesQ s).1.length ≤ c ∧ Fr w w' := by
  obtain ⟨Q, hQ⟩ : ∃ Q : List ByteArray × Int, namesQ s = Q := ⟨_, rfl⟩
  rw [hQ]
  have HQ := Lib.hid hQ
  clear hQ
  obtain ⟨bz, hbz⟩ : ∃ b : Bool, decide ((0 : UInt8) ∈ s) = b := ⟨_, rfl⟩
  have CZ : ∀ W, Calls Tryd.prog 89 #[.string ⟨s.toArray⟩, .string ⟨#[0]⟩] W fun e w' => e = .returned (.bool bz) ∧ w' = W := fun W => by
    have h := Tryd.strings_Contains_one ⟨s.toArray⟩ 0 W
    rwa [← Lib.contains_iff_indexByte, show (⟨s.toArray⟩ : ByteArray).data.toList.contains 0 = bz from by rw [← hbz]; simp] at h
  have HBZ := Lib.hid hbz
  clear hbz
  obtain ⟨bl, hbl⟩ : ∃ b : Bool, decide ((s.length : Int) > 1023) = b := ⟨_, rfl⟩
  have hro : Fence.wide.round = none := rfl
  have h1 : 1 ≤ 9 := by omega
  have hf1 : Fence.wide.fn 89 := trivial
  have hf2 : Fence.wide.fn 90 := trivial
  have hf3 : Fence.wide.fn 91 := trivial
  obtain ⟨w1, g, hg, hw1, f1, hz1, H1⟩ := boxedN hw #[.slice none 0 0] 75
  refine (callsIn_wide (n := 9)).1 ?_
  refine callsIn_of_wp_marks Tryd.func76 rfl trivial ?_ hro
  simp only [Tryd.ntmps76, List.size_toArray, List.length_cons, List.length_nil, Nat.reduceAdd, Nat.reduceSub, Array.replicate_succ, Array.replicate_zero, List.push_toArray, List.append_toArray, List.nil_append, List.cons_append]
  cases bz with
  | true =>
    gi_wp2_with (first
      | (gi_at_call 89; refine (callsIn_wide.2 (CZ _)).mono ?_; rintro e wq ⟨rfl, he⟩; replace he := he.symm; subst he))
    have hq := HQ.out
    unfold namesQ at hq
    rw [if_pos (by simpa using HBZ.out)] at hq
    subst hq
    exact ⟨_, results_tmp2 rfl _ _ _, none, 0, rfl, SRow.none _, Nat.le_refl _, Fr.refl hw⟩
  | false =>
    cases bl with
    | true =>
      gi_wp2_with (first
        | (gi_at_call 89; refine (callsIn_wide.2 (CZ _)).mono ?_; rintro e wq ⟨rfl, he⟩; replace he := he.symm; subst he))
      have hq := HQ.out
      unfold namesQ at hq
      rw [if_neg (by simpa using HBZ.out), if_pos (by have := of_decide_eq_true hbl; omega)] at hq
      subst hq
      exact ⟨_, results_tmp2 rfl _ _ _, none, 0, rfl, SRow.none _, Nat.le_refl _, Fr.refl hw⟩
    | false =>
      gi_wp2_with (first
        | (gi_at_call 89; refine (callsIn_wide.2 (CZ _)).mono ?_; rintro e wq ⟨rfl, he⟩; replace he := he.symm; subst he)
        | (gi_at_call 90; refine (callsIn_wide.2 (splitSeq_any s _)).mono ?_; rintro e w2 ⟨rfl, G2, hz2, HS2⟩))
      obtain ⟨b, hb⟩ : ∃ b, w1.heap.size = b := ⟨_, rfl⟩
      rw [hb] at hz2 HS2 ⊢
      have hgb : g < b := by omega
      have hgw : w.heap.size = g := hg
      have hv0 : Boxed w2 g 75 (.slice none 0 0) := Boxed.kept H1 G2 (by simp)
      have f2 : Fr w w2 := Fr.row f1 hw G2 (fun k e => by cases e)
      obtain ⟨i0, hi, hz0, hz1', hz2'⟩ := info_parts infoString
      refine wp_range rfl h1 (gf := 107) (lb := #[.pointer (some ⟨b + 1, 0, none⟩), .pointer (some ⟨b, 0, none⟩), .pointer (some ⟨b + 2, 0, none⟩)]) rfl trivial (enters_of Tryd.func107 (by kernel_rfl) rfl)
        (splitC_gives _ b (by omega) s hs _ HS2) Keep3.trans (fun W k o' hk i h1 h2 => World.putObj_heap_other (by omega)) (fun r e => by omega) (fun _ => rfl)
        (fun pre W => ∃ v, Boxed W g 75 v ∧ W.ownsRow w2.heap.size 9 1 v (pre.filter fun x => decide (okW x)).length ((pre.filter fun x => decide (okW x)).map fun x => Value.string ⟨x.toArray⟩) ∧ Fr w W ∧ w2.heap.size ≤ W.heap.size)
        ?hI ⟨_, hv0, World.ownsRow_nil _ _ _ _, f2, Nat.le_refl _⟩
        (fun x a' W => a' = { tmps := #[.string ⟨s.toArray⟩, undef, .slice none 0 0, .int .i64 0, .pointer (some ⟨g, 0, none⟩), .string ⟨x.toArray⟩, .string ⟨s.toArray⟩, .bool false, .string ⟨s.toArray⟩, .int .i64 s.length, .bool false, .string ⟨s.toArray⟩, .func (.func 107) #[] #[.pointer (some ⟨b + 1, 0, none⟩), .pointer (some ⟨b, 0, none⟩), .pointer (some ⟨b + 2, 0, none⟩)], .string ⟨x.toArray⟩, undef, undef, undef, undef, undef, undef, undef, undef, undef, undef, undef, undef, undef, undef, undef, undef], defers := [] })
        (fun _ _ _ _ _ h _ _ _ => h) ?assign ?body ?done
      case hI =>
        rintro pre X Y row ⟨v, hv, hr, f, hsz⟩ hG hrow
        have hne : ∀ r, row = some r → w.heap.size ≤ r ∧ r ≠ g ∧ v.ownBlock ≠ some r := fun r e => by
          rcases hrow r e with h | ⟨h, o, ho, hc⟩
          · subst h
            exact ⟨by omega, by omega, fun e2 => by have := (World.ownsRow.lt hr _ e2).1; omega⟩
          · refine ⟨by omega, by omega, fun e2 => ?_⟩
            rcases hr.2 with ⟨rfl, _⟩ | ⟨g', cap, cur, rfl, _, hgb', _⟩
            · cases e2
            · have : g' = r := by simpa [Value.ownBlock] using e2
              subst this
              rw [hgb'] at ho; cases ho; cases hc
        refine ⟨v, hv.kept hG (fun e => (hne g e.symm).2.1 rfl), hr.kept hG ?_, Fr.row f hw hG (fun k e => (hne k e).1), Nat.le_trans hsz hG.size⟩
        cases hv' : v.ownBlock with
        | none => exact .inl rfl
        | some r => exact .inr fun e => (hne r e.symm).2.2 hv'
      case assign =>
        intro l pre x W K hi hK
        gi_wp2
        exact hK _ _ (KeepsFrom.refl _ _) (Keep3.refl _ _) hi rfl
      case body =>
        rintro l pre x post a' W hx ⟨v, hv, hrow, f, hsz⟩ rfl
        have hcell := hv.cell
        by_cases hk0 : x = []
        · subst hk0
          gi_wp2
          refine ⟨KeepsFrom.refl _ _, Keep3.refl _ _, v, hv, ?_, f, hsz⟩
          simpa [okW] using hrow
        · by_cases hk1 : x = [46]
          · subst hk1
            gi_wp2
            refine ⟨KeepsFrom.refl _ _, Keep3.refl _ _, v, hv, ?_, f, hsz⟩
            simpa [okW] using hrow
          · have hq0 : (x == []) = false := by simpa using hk0
            have hq1 : (x == [46]) = false := by simpa using hk1
            have hpl : (pre.filter fun x => decide (okW x)).length ≤ 1048577 := by
              have h1 := List.length_filter_le (fun x => decide (okW x)) pre
              have h2 := cuts_len s []
              rw [hx, List.length_append, List.length_cons] at h2
              omega
            gi_wp2_with (gi_at_builtin; refine wpListIn_append_own _ rfl _ _ 75 rfl w2.heap.size 9 i0 (.string ⟨#[]⟩) 1 16 Tryd.underlying75 hi hz0 hz1' hz2' rfl (by decide) _ _ _ rfl (hrow.alloc _) ⟨W.heap.size, 0, none⟩ 1 1 [.string ⟨x.toArray⟩] rfl rfl (cell_one_new _ _ _) (by simp [Value.oneCell']) (by unfold maxLen; omega) (by omega) (by simp; omega) ?_; intro v' w1 hown' hgrow _; obtain ⟨g', cap', rfl⟩ := ownsRow_succ hown'; obtain ⟨hv1, hv2, hr2, hk2, hb2, hb3⟩ := box_appended hv hrow hsz (by omega) hown' hgrow; have hc1 := hv1.cell; have hf1 := hv1.frozen)
            obtain ⟨hg0, hge⟩ := hb2 w.heap.size (by omega) (by have := f.size; omega)
            have hsz1 := hg0.size
            have hsz2 := (grownBy_setCell' w1 g (Value.slice (some ⟨g', 0, none⟩) ((pre.filter fun x => decide (okW x)).length + 1) cap')).size
            refine ⟨hk2.from _, fun k h1 h2 => hb3 k (by omega) (by omega), _, hv2, ?_, Fr.row (Fr.row f hw hg0 hge) hw (grownBy_setCell' w1 g _) (fun k e => by cases e; omega), by omega⟩
            have hfx : (pre ++ [x]).filter (fun x => decide (okW x)) = pre.filter (fun x => decide (okW x)) ++ [x] := by
              rw [List.filter_append]
              simp [okW, hk0, hk1]
            rw [hfx, List.length_append, List.map_append]
            exact hr2
      case done =>
        rintro D W hD ⟨v, hv, hrow, f, hsz⟩ hK
        rw [← parts_cuts s []] at hrow
        obtain ⟨L, hL⟩ : ∃ L, partsL [] s = L := ⟨_, rfl⟩
        have HL := Lib.hid hL
        rw [hL] at hrow
        have hLl : L.length ≤ 1048577 := by
          have h1 := parts_cuts s []
          have h2 := List.length_filter_le (fun x => decide (okW x)) (cutsL [] s)
          have h3 := cuts_len s []
          rw [← h1, hL] at h2
          omega
        clear hL
        obtain ⟨A, c, rfl⟩ := own_form hrow
        have hS := row_S hrow
        have hcell := hv.cell
        obtain ⟨bc, hbc⟩ : ∃ b, (L.map toB).any (fun x => decide (63 < x.size)) = b := ⟨_, rfl⟩
        have CF : Calls Tryd.prog 91 #[.slice A L.length c, .func (.func 92) #[] #[]] W fun e w' => e = .returned (.bool bc) ∧ w' = W := by
          have h := contains_any A c (L.map toB) (by rw [List.length_map]; omega) W hS
          rwa [List.length_map, hbc] at h
        obtain ⟨b6, hb6⟩ : ∃ b, decide ((L.length : Int) > 64) = b := ⟨_, rfl⟩
        have HB := Lib.hid (And.intro hbc hb6)
        clear hbc
        have hfin : ∀ (o' : Obj), Fr w (W.putObj D o') := fun o' => Fr.row f hw (grownBy_putObj' W D o') (fun k e => by cases e; omega)
        have hSp : ∀ (o' : Obj), SRow (W.putObj D o') A (L.map toB) := fun o' => row_S (ownsRow_putObj hrow o' hK rfl)
        have hq : Q = if 64 < L.length ∨ (L.map toB).any (fun x => decide (63 < x.size)) = true then ([], 161) else (L.map toB, 0) := by
          rw [← HQ.out]
          unfold namesQ
          rw [if_neg (by simpa using HBZ.out), if_neg (by have := of_decide_eq_false hbl; omega), HL.out]
        cases b6 with
        | true =>
          gi_wp2_with fail
          refine ⟨by simp, .inl ⟨_, _, rfl, run_takeDeferred hK, ?_⟩⟩
          have h6 : 64 < L.length := by have := of_decide_eq_true hb6; omega
          rw [if_pos (.inl h6)] at hq
          subst hq
          exact ⟨_, results_tmp2 rfl _ _ _, none, 0, rfl, SRow.none _, Nat.le_refl _, hfin _⟩
        | false =>
          have h6 : ¬ 64 < L.length := by have := of_decide_eq_false hb6; omega
          cases bc with
          | true =>
            gi_wp2_with (first
              | (gi_at_call 91; refine (callsIn_wide.2 CF).mono ?_; rintro e wq ⟨rfl, he⟩; replace he := he.symm; subst he))
            refine ⟨by simp, .inl ⟨_, _, rfl, run_takeDeferred hK, ?_⟩⟩
            rw [if_pos (.inr HB.out.1)] at hq
            subst hq
            exact ⟨_, results_tmp2 rfl _ _ _, none, 0, rfl, SRow.none _, Nat.le_refl _, hfin _⟩
          | false =>
            gi_wp2_with (first
              | (gi_at_call 91; refine (callsIn_wide.2 CF).mono ?_; rintro e wq ⟨rfl, he⟩; replace he := he.symm; subst he))
            refine ⟨by simp, .inl ⟨_, _, rfl, run_takeDeferred hK, ?_⟩⟩
            rw [if_neg (fun e => e.elim h6 (fun e => by rw [HB.out.1] at e; cases e))] at hq
            subst hq
            exact ⟨_, results_tmp2 rfl _ _ _, A, c, by rw [List.length_map]; rfl, hSp _, by rw [List.length_map]; exact own_cap hrow, hfin _⟩
end Go.Proofs.YtlnaeppbhjmocaaDoor
set_option linter.unusedSimpArgs false
set_option linter.unusedVariables false
namespace Go.Proofs.YtlnaeppbhjmocaaDoor
open Go.RowKit Go.Proofs

/-- a row of names behind a pointer, from a place on -/
def SRowO (w : World) (A : Option Addr) (l : List ByteArray) : Prop := l ≠ [] → ∃ g o, A = some ⟨g, o, none⟩ ∧ g < w.heap.size ∧ ∀ i (h : i < l.length), w.cell? ⟨g, o + i, none⟩ = some (.string l[i])
theorem SRow.off {w : World} {A : Option Addr} {l : List ByteArray} (h : SRow w A l) : SRowO w A l := fun hl => by
  have h0 : 0 < l.length := List.length_pos_iff.2 hl
  obtain ⟨g, hg, hc⟩ := h 0 h0
  refine ⟨g, 0, hg, World.block_lt_of_cell? w _ hc, fun i hi => ?_⟩
  obtain ⟨g', hg', hc'⟩ := h i hi
  rw [hg] at hg'
  have : g = g' := by injection hg' with e; injection e
  subst this
  rw [Nat.zero_add]; exact hc'
theorem SRowO.fr {w w' : World} {A : Option Addr} {l : List ByteArray} (h : SRowO w A l) (q : Fr w w') : SRowO w' A l := fun hl => by
  obtain ⟨g, o, hg, hlt, hc⟩ := h hl
  exact ⟨g, o, hg, Nat.lt_of_lt_of_le hlt q.size, fun i hi => q.cell (hc i hi)⟩
theorem prefix_slash (s : List UInt8) : Lib.hasPrefix (⟨s.toArray⟩ : ByteArray).data.toList (⟨#[47]⟩ : ByteArray).data.toList = decide (s.head? = some 47) := by
  cases s with
  | nil => rfl
  | cons c r =>
    show List.isPrefixOf [47] (c :: r) = _
    by_cases h : c = 47
    · subst h; simp [List.isPrefixOf]
    · have h2 : ((47 : UInt8) == c) = false := by simpa using fun e => h e.symm
      simp [List.isPrefixOf, h, h2]

set_option maxRecDepth 100000 in
theorem psplit_any (s : List UInt8) (hs : s.length ≤ 1048576) (w : World) (hw : Ok w) :
    Calls Tryd.prog 63 #[.string ⟨s.toArray⟩] w fun e w' => ∃ A c, e = .returned (.tuple #[.slice A (splitQ s).1.length c, .int .i64 (splitQ s).2]) ∧ SRow w' A (splitQ s).1 ∧ (splitQ s).1.length ≤ c ∧ Fr w w' := by
  obtain ⟨bp, hbp⟩ : ∃ b : Bool, decide (s.head? = some 47) = b := ⟨_, rfl⟩
  have CP : Calls Tryd.prog 75 #[.string ⟨s.toArray⟩, .string ⟨#[47]⟩] w fun e w' => e = .returned (.bool bp) ∧ w' = w := by
    have h := Tryd.strings_HasPrefix ⟨s.toArray⟩ ⟨#[47]⟩ w
    rwa [prefix_slash, hbp] at h
  have CN := pnames_any s hs w hw
  obtain ⟨Q, hQ⟩ : ∃ Q : List ByteArray × Int, splitQ s = Q := ⟨_, rfl⟩
  rw [hQ]
  unfold splitQ at hQ
  cases bp with
  | true =>
    rw [if_pos (of_decide_eq_true hbp)] at hQ
    rw [hQ] at CN
    clear hbp hQ
    go_enter Tryd.func63, Tryd.ntmps63
    go_wp2_with (first
      | (go_at_call 75; refine CP.mono ?_; rintro e wq ⟨rfl, he⟩; replace he := he.symm; subst he)
      | (go_at_call 76; refine CN.mono ?_; rintro e wq ⟨A, c, rfl, hS, hc, f⟩))
    go_ret2
    exact ⟨A, c, rfl, hS, hc, f⟩
  | false =>
    rw [if_neg (of_decide_eq_false hbp)] at hQ
    clear hbp CN
    go_enter Tryd.func63, Tryd.ntmps63
    go_wp2_with (first
      | (go_at_call 75; refine CP.mono ?_; rintro e wq ⟨rfl, he⟩; replace he := he.symm; subst he))
    go_ret2
    subst hQ
    exact ⟨none, 0, rfl, SRow.none _, Nat.le_refl _, Fr.refl hw⟩

set_option maxRecDepth 100000 in
set_option maxHeartbeats 1600000 in
theorem pclean_any (s : List UInt8) (hs : s.length ≤ 1048576) (w : World) (hw : Ok w) :
    Calls Tryd.prog 73 #[.string ⟨s.toArray⟩] w fun e w' => ∃ A c, e = .returned (.tuple #[.slice A ((splitQ s).1.dropWhile isUp).length c, .int .i64 (splitQ s).2]) ∧ SRowO w' A ((splitQ s).1.dropWhile isUp) ∧ ((splitQ s).1.dropWhile isUp).length ≤ c ∧ Fr w w' := by
  have CS := psplit_any s hs w hw
  have hq1 : (splitQ s).1.length ≤ 1048577 := by
    rcases splitQ_err (s := s) with h | h
    · have := (splitQ_good h).2.2.2.1; omega
    · rw [h.1]; simp
  obtain ⟨Q, hQ⟩ : ∃ Q : List ByteArray × Int, splitQ s = Q := ⟨_, rfl⟩
  rw [hQ] at CS hq1 ⊢
  clear hQ
  obtain ⟨⟨l, er⟩, rfl⟩ : ∃ q, q = Q := ⟨_, rfl⟩
  dsimp only at CS hq1 ⊢
  go_enter Tryd.func73, Tryd.ntmps73
  go_wp2_with (first
    | (go_at_call 63; refine CS.mono ?_; rintro e wq ⟨A, c, rfl, hS, hc, f⟩))
  go_loopg [4] l.length (fun k v4 wc => ∃ (t : List ByteArray) (B : Option Addr) (d : Nat), t.length ≤ k ∧ v4 = .slice B t.length d ∧ t.length ≤ d ∧ Hid (SRowO wq B t) ∧ Hid (t.dropWhile isUp = l.dropWhile isUp) ∧ wc = wq)
  case atStart => exact ⟨l, A, c, Nat.le_refl _, rfl, hc, Lib.hid hS.off, Lib.hid rfl, rfl⟩
  case round =>
    obtain ⟨t, B, d, htk, rfl, htd, HS, HD, rfl⟩ := hrel
    cases t with
    | nil =>
      go_wp2_with fail
      go_ret2
      have := HD.out
      rw [List.dropWhile_nil] at this
      rw [← this]
      exact ⟨B, d, rfl, fun h => absurd rfl h, Nat.zero_le _, f⟩
    | cons x r =>
      obtain ⟨g, o, rfl, hlt, hcs⟩ := HS.out (by simp)
      have hx0 : w.heap.size ≤ w.heap.size := Nat.le_refl _
      have c0 := hcs 0 (by simp)
      rw [Nat.add_zero, List.getElem_cons_zero] at c0
      have hR : ∀ i (h : i < r.length), wr.cell? ⟨g, o + 1 + i, none⟩ = some (.string r[i]) := fun i h => by
        have := hcs (i + 1) (by simp; omega)
        rw [List.getElem_cons_succ] at this
        rw [← this]; congr 2; omega
      have HR := Lib.hid hR
      clear hR hcs
      obtain ⟨bb, hbb⟩ : ∃ b, (x.toList == ([46, 46] : List UInt8)) = b := ⟨_, rfl⟩
      have hup : isUp x = bb := by unfold isUp; rw [← toL]; exact hbb
      rw [List.length_cons] at htk htd
      have d0 : (0 : Int) < ((r.length + 1 : Nat) : Int) := by omega
      have d1 : (1 : Int) ≤ ((r.length + 1 : Nat) : Int) := by omega
      cases bb with
      | false =>
        go_wp2_with fail
        go_ret2
        have := HD.out
        rw [List.dropWhile_cons, if_neg (by rw [hup]; decide)] at this
        rw [← this]
        exact ⟨_, d, rfl, fun _ => ⟨g, o, rfl, hlt, fun i hi => by
          cases i with
          | zero => simpa using c0
          | succ i => rw [List.getElem_cons_succ, ← HR.out i (by simpa using hi)]; congr 2; omega⟩, by rw [List.length_cons]; omega, f⟩
      | true =>
        have hD := HD.out
        rw [List.dropWhile_cons, if_pos hup] at hD
        cases gk with
        | zero => omega
        | succ k =>
          by_cases hd1 : d = 1
          · subst hd1
            have : r = [] := List.length_eq_zero_iff.mp (by omega)
            subst this
            go_wp2_with fail
            go_roundg k
            case measure => omega
            case rel => exact ⟨[], _, 0, Nat.zero_le _, rfl, Nat.le_refl _, Lib.hid (fun h => absurd rfl h), Lib.hid hD, rfl⟩
          · go_wp2_with fail
            go_roundg k
            case measure => omega
            case rel => exact ⟨r, _, d - 1, by omega, by go_num, by omega, Lib.hid (fun _ => ⟨g, o + 1, rfl, hlt, HR.out⟩), Lib.hid hD, rfl⟩

set_option maxRecDepth 100000 in
set_option maxHeartbeats 1600000 in
theorem pClean_any (s : List UInt8) (hs : s.length ≤ 1048576) (w : World) (hw : Ok w) :
    Calls Tryd.prog 62 #[.string ⟨s.toArray⟩] w fun e w' => e = .returned (.tuple #[.string ⟨(cleanQ s).1.toArray⟩, .int .i64 (cleanQ s).2]) ∧ Fr w w' := by
  have CC := pclean_any s hs w hw
  obtain ⟨R, hR⟩ : ∃ R, cleanQ s = R := ⟨_, rfl⟩
  rw [hR]
  unfold cleanQ at hR
  rcases splitQ_err (s := s) with h | ⟨h1, h2⟩
  · have hg := splitQ_good h
    have hsd := sum_drop (splitQ s).1 isUp
    have hdl : ((splitQ s).1.dropWhile isUp).length ≤ (splitQ s).1.length := (List.dropWhile_sublist _).length_le
    rw [if_pos h] at hR
    rw [h] at CC
    obtain ⟨l, hl⟩ : ∃ l, (splitQ s).1.dropWhile isUp = l := ⟨_, rfl⟩
    rw [hl] at CC hR hsd hdl
    have hl64 : l.length ≤ 64 := by omega
    have hsum : (l.map fun x => x.size + 1).sum ≤ 1024 := by omega
    clear hg hsd hdl hl h
    subst hR
    cases l with
    | nil =>
      have CJ : ∀ A c W, Calls Tryd.prog 74 #[.slice A 0 c, .string ⟨#[47]⟩] W fun e w' => e = .returned (.string ⟨#[]⟩) ∧ w' = W := fun A c W => Tryd.strings_Join_none A c ⟨#[47]⟩ W
      go_enter Tryd.func62, Tryd.ntmps62
      go_wp2_with (first
        | (go_at_call 73; refine CC.mono ?_; rintro e wq ⟨A, c, rfl, hS, hc, f⟩)
        | (go_at_call 74; refine (CJ _ _ _).mono ?_; rintro e wx ⟨rfl, he⟩; replace he := he.symm; subst he))
      go_ret2
      exact ⟨rfl, f⟩
    | cons x r =>
      have hne : x :: r ≠ [] := by simp
      have hjp := join_path (x :: r) hne
      have hjl : (Lib.join ((x :: r).map (·.data.toList)) [47]).length + 1 = ((x :: r).map fun x => x.size + 1).sum := by
        have := congrArg List.length hjp
        rw [pathL_len] at this
        simpa using this
      obtain ⟨J, hJ⟩ : ∃ J, Lib.join ((x :: r).map (·.data.toList)) [47] = J := ⟨_, rfl⟩
      have CJ : ∀ A c W, SRowO W A (x :: r) → (x :: r).length ≤ c → Calls Tryd.prog 74 #[.slice A (x :: r).length c, .string ⟨#[47]⟩] W fun e w' => e = .returned (.string ⟨J.toArray⟩) ∧ Below W.heap.size W w' := fun A c W hS hc => by
        obtain ⟨g, o, rfl, hlt, hcs⟩ := hS hne
        have h := Tryd.strings_Join g o c (x :: r) ⟨#[47]⟩ W (fun j y hy => by
          have hj := (List.getElem?_eq_some_iff.1 hy).1
          have hy' := (List.getElem?_eq_some_iff.1 hy).2
          rw [← hy']; exact hcs j hj) hlt (by omega) hc (by show (Lib.join _ [47]).length ≤ _; omega)
        rw [show (⟨#[47]⟩ : ByteArray).data.toList = [47] from rfl, hJ] at h
        exact h
      rw [hJ] at hjp hjl
      have hP : pathL (x :: r) = 47 :: J := by unfold pathL; rw [if_neg hne, hjp]
      have HP := Lib.hid hP
      have hsJ : (⟨J.toArray⟩ : ByteArray).size = J.length := bs_size J
      obtain ⟨SJ, hSJ⟩ : ∃ S : ByteArray, (⟨J.toArray⟩ : ByteArray) = S := ⟨_, rfl⟩
      rw [hSJ] at hsJ
      have HSJ := Lib.hid hSJ
      have hs3 : SJ.size ≤ 1023 := by omega
      have HCJ := Lib.hid CJ
      obtain ⟨m, hm⟩ : ∃ m, (x :: r).length = m := ⟨_, rfl⟩
      rw [hm] at CC
      clear hjp hjl hJ hsJ hSJ hP hsum CJ
      go_enter Tryd.func62, Tryd.ntmps62
      go_wp2_with (first
        | (go_at_call 73; refine CC.mono ?_; rintro e wq ⟨A, c, rfl, hS, hc, f⟩; have HS := Lib.hid hS; clear hS)
        | (go_at_call 74; (have hcj := HCJ.out A c wq HS.out (by omega)); rw [hm, HSJ.out] at hcj; refine hcj.mono ?_; rintro e wx ⟨rfl, hb⟩; have HB := Lib.hid hb; clear hb))
      go_ret2
      refine ⟨?_, f.trans (Fr.of f.ok HB.out)⟩
      have : (⟨#[47]⟩ : ByteArray) ++ SJ = ⟨(pathL (x :: r)).toArray⟩ := by
        rw [HP.out, ← HSJ.out]
        refine bs_ext ?_
        rw [ByteArray.data_append]
        simp
      rw [this]
      rfl
  · have hne : (splitQ s).2 ≠ 0 := by omega
    rw [if_neg hne] at hR
    obtain ⟨er, her⟩ : ∃ x, (splitQ s).2 = x := ⟨_, rfl⟩
    rw [her] at CC hR hne h2
    clear h1 her
    subst hR
    have d0 : ¬ er = 0 := hne
    go_enter Tryd.func62, Tryd.ntmps62
    go_wp2_with (first
      | (go_at_call 73; refine CC.mono ?_; rintro e wq ⟨A, c, rfl, hS, hc, f⟩))
    go_ret2
    exact ⟨rfl, f⟩

/-- what parcel.namesOf tells -/
def namesR (s : List UInt8) : List ByteArray × Bool := match namesP s with
  | some l => (l, true)
  | none => ([], false)

set_option maxRecDepth 100000 in
set_option maxHeartbeats 1600000 in
theorem namesOf_any (s : List UInt8) (hs : s.length ≤ 1048576) (w : World) (hw : Ok w) :
    Calls Tryd.prog 46 #[.string ⟨s.toArray⟩] w fun e w' => ∃ A c, e = .returned (.tuple #[.slice A (namesR s).1.length c, .bool (namesR s).2]) ∧ SRow w' A (namesR s).1 ∧ (namesR s).1.length ≤ c ∧ Fr w w' := by
  have CC := pClean_any s hs w hw
  have CS := fun W hW => psplit_any s hs W hW
  obtain ⟨R, hR⟩ : ∃ R, namesR s = R := ⟨_, rfl⟩
  rw [hR]
  unfold namesR namesP at hR
  obtain ⟨⟨cl, er⟩, hcl⟩ : ∃ q, cleanQ s = q := ⟨_, rfl⟩
  have hcq := hcl
  rw [hcl] at CC hR
  dsimp only at CC hR
  by_cases he : er = 0
  · subst he
    have h4 : (splitQ s).2 = 0 := by
      unfold cleanQ at hcq
      split at hcq
      · assumption
      · rename_i h5; exact absurd (congrArg Prod.snd hcq) h5
    by_cases hc : cl = s
    · subst hc
      have hg := splitQ_good h4
      rw [h4] at CS
      obtain ⟨l, hl⟩ : ∃ l, (splitQ cl).1 = l := ⟨_, rfl⟩
      rw [hl] at CS hR
      have hl64 : l.length ≤ 64 := by rw [← hl]; exact hg.2.2.2.1
      have HCS := Lib.hid CS
      have hq0 : (cl != cl) = false := by simp
      clear hg h4 hcq hcl hl CS
      have HR := Lib.hid hR
      clear hR
      go_enter Tryd.func46, Tryd.ntmps46
      go_wp2_with (first
        | (go_at_call 62; refine CC.mono ?_; rintro e wq ⟨rfl, f⟩)
        | (go_at_call 63; refine (HCS.out _ f.ok).mono ?_; rintro e wx ⟨A, c, rfl, hS, hc, f2⟩))
      have HS := Lib.hid hS
      have HF := Lib.hid (f.trans f2)
      clear f f2 hS HCS
      go_loopg [28] l.length (fun k v28 wc => ∃ i : Nat, i + k = l.length ∧ v28 = .int .i64 i ∧ wc = wx ∧ Hid (∀ j (h : j < l.length), j < i → isUp l[j] = false))
      case atStart => exact ⟨0, by omega, rfl, rfl, Lib.hid (fun j h hj => by omega)⟩
      case round =>
        obtain ⟨i, hik, rfl, rfl, HN⟩ := hrel
        cases gk with
        | zero =>
          obtain rfl : i = l.length := by omega
          have hr := HR.out
          rw [if_pos ⟨by trivial, by trivial, List.any_eq_false.2 fun x hx => by
            obtain ⟨j, hj, rfl⟩ := List.mem_iff_getElem.mp hx
            rw [HN.out j hj hj]; decide⟩] at hr
          dsimp only at hr
          subst hr
          go_wp2_with fail
          go_ret2
          exact ⟨A, c, rfl, HS.out, hc, HF.out⟩
        | succ k =>
          have hi : i < l.length := by omega
          obtain ⟨g, rfl, hcl⟩ := HS.out i hi
          obtain ⟨x, hx⟩ : ∃ x, l[i] = x := ⟨_, rfl⟩
          rw [hx] at hcl
          obtain ⟨bb, hbb⟩ : ∃ b, (x.toList == ([46, 46] : List UInt8)) = b := ⟨_, rfl⟩
          have hup : isUp x = bb := by unfold isUp; rw [← toL]; exact hbb
          have HX := Lib.hid (And.intro hx hup)
          clear hx hup
          have d0 : (0 : Int) ≤ (i : Int) := by omega
          have d1 : (i : Int) < (l.length : Int) := by omega
          cases bb with
          | true =>
            have hr := HR.out
            rw [if_neg (fun h => by
              have := List.any_eq_false.1 h.2.2 _ (List.getElem_mem hi)
              rw [HX.out.1] at this
              exact this HX.out.2)] at hr
            dsimp only at hr
            subst hr
            go_wp2_with fail
            go_ret2
            first
              | exact ⟨none, 0, rfl, SRow.none _, Nat.le_refl _, HF.out⟩
              | exact ⟨none, ⟨0, rfl⟩, SRow.none _, HF.out⟩
          | false =>
            go_wp2_with fail
            go_roundg k
            case measure => omega
            case rel =>
              refine ⟨i + 1, by omega, by go_num, rfl, Lib.hid fun j hj hji => ?_⟩
              by_cases h : j = i
              · subst h; rw [HX.out.1]; exact HX.out.2
              · exact HN.out j hj (by omega)
    · have hq0 : (cl == s) = false := by simpa using hc
      rw [if_neg (fun h => hc h.2.1)] at hR
      dsimp only at hR
      subst hR
      clear hcq hcl CS hc
      go_enter Tryd.func46, Tryd.ntmps46
      go_wp2_with (first
        | (go_at_call 62; refine CC.mono ?_; rintro e wq ⟨rfl, f⟩))
      go_ret2
      exact ⟨none, 0, rfl, SRow.none _, Nat.le_refl _, f⟩
  · rw [if_neg (fun h => he h.1)] at hR
    dsimp only at hR
    subst hR
    have d0 : ¬ er = 0 := he
    clear hcq hcl CS
    go_enter Tryd.func46, Tryd.ntmps46
    go_wp2_with (first
      | (go_at_call 62; refine CC.mono ?_; rintro e wq ⟨rfl, f⟩))
    all_goals (go_ret2; exact ⟨none, 0, rfl, SRow.none _, Nat.le_refl _, f⟩)
end Go.Proofs.YtlnaeppbhjmocaaDoor
set_option linter.unusedVariables false
namespace Go.Proofs.YtlnaeppbhjmocaaDoor.Reg
open Go Go.RowKit Go.Sort

section
variable {P : Program} {ops : Array Oper} {md : Region.Mode} {S : World → Prop} {D : Nat} {Q : Exit → Act → World → Prop}

theorem uponIn_of_upon {l n : Nat} {o : Oper} {a : Act} {K : Act → World → Prop} {r : Result Next} (h : o.upon P a K Q r) : o.uponIn (Fence.wide.inRound l) n P a K Q r := by
  have hd : (Fence.wide.inRound l).depth.isSome = true → 1 ≤ n := fun e => by simp [Fence.wide] at e
  unfold Oper.upon at h
  unfold Oper.uponIn
  split at h
  · exact h
  · exact h
  · exact h
  · exact ⟨hd, CallsIn.inRound l (callsIn_wide.2 h)⟩
  · refine ⟨hd, fun c cs _ => ?_⟩
    obtain ⟨v, w', r, s⟩ := h c cs
    exact ⟨v, w', r, stepsIn_wide.2 s⟩
  · exact h
  · exact h.elim
theorem wpOpIn_of {l n : Nat} (hnd : ∀ (i : Nat) (o : Oper), ops[i]? = some o → ∀ c, o.op ≠ .defer c) (hL : ¬ LetsOut Q) {i : Nat} {K : Act → World → Prop} {a : Act} {w : World} (h : wpOp P ops Q i K a w) : wpOpIn (Fence.wide.inRound l) n P ops Q i K a w := by
  unfold wpOp at h
  unfold wpOpIn
  cases ho : ops[i]? with
  | none => simp only [ho] at h; exact h
  | some o =>
    simp only [ho] at h ⊢
    by_cases hw : Region.wanted o (yielded ops a.tmps) = true
    · simp only [hw, if_true] at h ⊢
      rcases h with h | h
      · refine ⟨fun _ _ => trivial, ?_⟩
        rw [Oper.semAt_eq _ _ _ (hnd i o ho)]
        exact uponIn_of_upon h
      · exact absurd h.2 hL
    · simp only [hw] at h ⊢
      exact ⟨fun _ _ => trivial, h⟩
theorem wpAnyIn_of {l n : Nat} (hnd : ∀ (i : Nat) (o : Oper), ops[i]? = some o → ∀ c, o.op ≠ .defer c) (hL : ¬ LetsOut Q) : ∀ (fuel : Nat) (listed : Array Bool) (a : Act) (w : World), wpAny P md ops Q fuel listed a w → wpAnyIn (Fence.wide.inRound l) n P md ops Q fuel listed a w
  | 0, _, _, _, h => h
  | fuel + 1, listed, a, w, h => ⟨h.1, fun i hi => wpOpIn_of hnd hL (wpOp_mono (fun a w => wpAnyIn_of hnd hL fuel _ a w) (h.2 i hi))⟩
def noDefer (ops : Array Oper) : Bool := ops.all fun o => match o.op with | .defer _ => false | _ => true
theorem noDefer_spec (h : noDefer ops = true) : ∀ (i : Nat) (o : Oper), ops[i]? = some o → ∀ c, o.op ≠ .defer c := by
  intro i o ho c hc
  have h1 := (Array.all_eq_true'.1 h) o (Array.mem_of_getElem? ho)
  rw [hc] at h1
  cases h1
theorem wpIn_region_late {l n : Nat} {id : Nat} {a : Act} {w : World} (S : World → Prop) (D : Nat) (qs rest : List Nat) (hm : P.follows .mixedOrders = true) (hB : lateB .any ops D qs rest = true) (hN : noDefer ops = true) (hS : S w.drew)
    (hL : ∀ a w, ¬ Q .outgrown a w)
    (h : wpLateT P ops S (fun a' => wpMainT P ops (NoPanic Q) S D rest a' w.drew) qs a) : (Code.region id ops true).wpIn (Fence.wide.inRound l) n P Q a w := by
  have hLo : ¬ LetsOut (NoPanic Q) := fun ⟨a, w, h⟩ => hL a w (NoPanic.imp _ _ _ h)
  simp only [lateB, Bool.and_eq_true, decide_eq_true_eq] at hB
  obtain ⟨⟨⟨⟨hsel, hD⟩, hsz⟩, hlate⟩, hseq⟩ := hB
  refine wpIn_mono (wpIn_region_any hm (wpAnyIn_of (noDefer_spec hN) hLo _ _ _ _ (wpAny_of_T (S := S) (D := D) _ _ _ _ ?_))) (fun e a w q => NoPanic.imp e a w q)
  rw [← hsz]
  refine wpAnyT_late (md := .any) hsel (fun _ _ _ _ _ h => h) qs rest.length _ a _ ?_ ?_ ?_ hS (fun a' h' => wpAnyT_main rest _ a' _ ?_ h') h
  · rw [hsz]; exact hlate
  · rw [hsz]
    intro j oj _ hl
    rw [getD_replicate_false] at hl; cases hl
  · rw [hsz]
    exact getD_in (by simpa using hD) (getD_replicate_false _ _)
  · rw [hsz]; exact hseq
end
end Go.Proofs.YtlnaeppbhjmocaaDoor.Reg
set_option linter.unusedSimpArgs false
set_option linter.unusedVariables false
namespace Go.Proofs.YtlnaeppbhjmocaaDoor
open Go.RowKit Go.Proofs Go.Shelf
attribute [local go_sem] Oper.semAt_some

set_option maxRecDepth 100000 in
set_option maxHeartbeats 3200000 in
theorem piece_any (B : Nat) (A : Option Addr) (c : Nat) (xs : List Int) (l : Lf) (da : Option Addr) (dd : Nat) (ns : List ByteArray) (NA : Option Addr) (nc : Nat) (w : World) (hw : Ok w) (hO : OwnB w B (.slice A xs.length c) xs) (hB : B ≤ w.heap.size) (hB0 : 0 < B)
    (hD : BytesAt w da l.data) (hdd : l.data.length ≤ dd) (hdB : ∀ a, datA l.data da = some a → a.block < B) (hdn : da = none → dd = 0) (hN : SRowO w NA ns) (hne : ns ≠ []) (h64 : ns.length ≤ 64) (hnc : ns.length ≤ nc) (hok : okL l = true) (hst : 0 ≤ l.stamp ∧ l.stamp ≤ 18446744073709551615)
    (hlast : (ns.getLastD ⟨#[]⟩).size ≤ 63) (hx : xs.length ≤ 1073741824) :
    Calls Tryd.prog 49 #[.slice A xs.length c, .agg #[.string l.path, .int .i64 l.ty, .int .i64 l.mode, .int .u64 l.stamp, .slice da l.data.length dd, .string l.tgt], .slice NA ns.length nc] w fun e w' => ∃ a d, e = .returned (.slice a (xs ++ pieceB l ns).length d) ∧ OwnB w' B (.slice a (xs ++ pieceB l ns).length d) (xs ++ pieceB l ns) ∧ w.grownBy w' (Value.slice A xs.length c).ownBlock ∧ Ownish w (Value.slice A xs.length c).ownBlock (Value.slice a (xs ++ pieceB l ns).length d).ownBlock := by
  obtain ⟨m, hm⟩ : ∃ m, ns.length = m := ⟨_, rfl⟩
  obtain ⟨k, hk⟩ : ∃ k, m = k + 1 := ⟨m - 1, by have := List.length_pos_iff.mpr hne; omega⟩
  obtain ⟨nm, hnm⟩ : ∃ nm, ns.getLastD ⟨#[]⟩ = nm := ⟨_, rfl⟩
  rw [hnm] at hlast
  obtain ⟨ng, no, hNA, hng, hcells⟩ := hN hne
  have hcell := hcells k (by omega)
  have hnk : ns[k]'(by omega) = nm := by
    rw [← hnm, List.getLastD_eq_getLast?, List.getLast?_eq_getElem?, show ns.length - 1 = k by omega, List.getElem?_eq_getElem (by omega)]
    rfl
  rw [hnk] at hcell
  subst hNA
  rw [hm] at hnc ⊢
  obtain ⟨R, hR⟩ : ∃ R, pieceB l ns = R := ⟨_, rfl⟩
  rw [hR]
  have HR := Lib.hid hR
  obtain ⟨Z, hZ⟩ : ∃ Z, xs ++ R = Z := ⟨_, rfl⟩
  rw [hZ]
  have HZ := Lib.hid hZ
  clear hZ
  obtain ⟨t1, t3, m0, m1, dl, dnil, gnil, gok⟩ := okL_ty hok
  have HT := Lib.hid (And.intro dnil (And.intro gnil gok))
  clear dnil gnil gok
  have hro : Fence.wide.round = none := rfl
  obtain ⟨w1, g1, hg1, hw1, f1, hz1, H1⟩ := boxedN hw #[.slice A xs.length c] 22
  obtain ⟨w2, g2, hg2, hw2, f2, hz2, H2⟩ := boxedN f1.ok #[.string l.path, .int .i64 l.ty, .int .i64 l.mode, .int .u64 l.stamp, .slice da l.data.length dd, .string l.tgt] 45
  have f12 := f1.trans f2
  have P2 : PcS w w2 B g1 g2 (Value.slice A xs.length c).ownBlock #[.string l.path, .int .i64 l.ty, .int .i64 l.mode, .int .u64 l.stamp, .slice da l.data.length dd, .string l.tgt] (.slice A xs.length c) xs :=
    ⟨Boxed.kept H1 (fr_none f2) (by simp), OwnB.fr hO f12, grown_none (fr_none f12), .inl rfl, H2, by omega, by omega, by omega⟩
  have hcell2 := f12.cell hcell
  obtain ⟨g3, hg3⟩ : ∃ g, w2.heap.size = g := ⟨_, rfl⟩
  obtain ⟨w3, v4, w4, hw3, hap, O4, q4, i4⟩ := append_lit 22 B A c xs [(k : Int), l.ty] w2 P2.own (by simp; omega) (by have := f12.size; omega)
  obtain ⟨y4, hy4⟩ : ∃ y, xs ++ [(k : Int), l.ty] = y := ⟨_, rfl⟩
  have hl4 : y4.length = xs.length + 2 := by rw [← hy4]; simp
  rw [hy4] at O4
  have HY4 := Lib.hid hy4
  have HL4 := Lib.hid hl4
  clear hy4 hl4
  rw [hg3] at hap
  simp only [List.map_cons, List.map_nil, List.length_cons, List.length_nil, Nat.zero_add, Nat.reduceAdd] at hw3 hap
  obtain ⟨w5, hw5, P5⟩ := P2.step q4 O4 i4
  obtain ⟨a4, d4, rfl⟩ := O4.form
  have e1 : IntKind.i64.wrap ((m : Int) - 1) = (k : Int) := by rw [IntWalk.i64_in _ ⟨by omega, by omega⟩]; omega
  have e2 : IntKind.u8.wrap (k : Int) = (k : Int) := by rw [IntKind.wrap_u8]; omega
  have e3 : IntKind.u8.wrap l.ty = l.ty := by rw [IntKind.wrap_u8]; omega
  have s1 : (0 : Int) ≤ (k : Int) := by omega
  have s2 : (k : Int) < (m : Int) := by omega
  have c0 : w2.cell? ⟨g1, 0, none⟩ = some (.slice A xs.length c) := P2.box.cell
  obtain ⟨b0, b1, b2, b3, b4, b5⟩ := blk6 P2.leaf
  have z0 := Boxed.frozen (Boxed.kept P2.box q4 (own_ne3 P2.own P2.box (by decide)))
  have z1 := Boxed.cell (Boxed.kept P2.box q4 (own_ne3 P2.own P2.box (by decide)))
  refine (callsIn_wide (n := 9)).1 ?_
  refine callsIn_of_wp_marks Tryd.func49 rfl trivial ?_ hro
  simp only [Tryd.ntmps49, List.size_toArray, List.length_cons, List.length_nil, Nat.reduceAdd, Nat.reduceSub, Array.replicate_succ, Array.replicate_zero, List.push_toArray, List.append_toArray, List.nil_append, List.cons_append]
  refine wpIn_wide.2 ?_
  go_upto_region 3 with (first
    | (at_builtin; refine wpList_append_run rfl _ _ 22 22 rfl (by simp [Act.eval]) (by simp [Act.eval]) hap ?_))
  clear hap hw3 hw5 q4 i4 O4 c0 b0 b1 b2 b3 b4 b5 z0 z1 e1 e2 e3 s1 s2 P2 hw1 hw2 H1 H2 hcell hcell2 hcells
  have P5d := P5.more (show w5.grownBy w5.drew none from ⟨rfl, rfl, rfl, Nat.le_refl _, fun _ _ _ => rfl⟩) (fun r e => by cases e)
  have HX := Lib.hid hx
  have HFW := Lib.hid f12
  clear hx f12 f1 f2
  have okg : ∀ W, w.grownBy W (Value.slice A xs.length c).ownBlock → Ok W := fun W g => ok_keep hw (g.block 0 (by omega) (fun e => by
    have := (World.ownsRow.lt hO 0 e.symm).1
    omega))
  have HOK := Lib.hid okg
  clear okg
  have e4 : IntKind.u64.wrap l.mode = l.mode := u64_in ⟨by omega, by omega⟩
  obtain ⟨b0, b1, b2, b3, b4, b5⟩ := blk6 P5d.leaf
  have c0 := P5d.box.cell
  refine Reg.wp_region_late (fun w' => w'.cell? ⟨g1, 0, none⟩ = some (.slice a4 y4.length d4) ∧ w'.cell? ⟨g2, 2, none⟩ = some (.int .i64 l.mode) ∧ w'.cell? ⟨g2, 3, none⟩ = some (.int .u64 l.stamp)) 8 [0, 1, 2, 3, 5, 6] [4, 7, 8] (by kernel_rfl) (by kernel_rfl) ⟨c0, b2, b3⟩ ?_
  iterate 6
    refine Reg.wpLateT_step (v := ?_) rfl ?_ (fun w' hS => ?_) ?_
    rotate_left
    · simp [Region.wanted]
    · obtain ⟨s1, s2, s3⟩ := hS
      go_simp
      try (first | rfl | exact ⟨rfl, rfl⟩)
  refine Reg.wpMainT_enter (fn := 39) (args := #[.slice a4 y4.length d4, .int .u64 l.mode, .int .i64 2]) rfl (by simp [Region.wanted]) ?_ (put_any B a4 d4 y4 l.mode 2 m0 (by omega) (by omega) w5.drew (HOK.out _ P5d.grown) P5d.own (by have := P5d.size; omega) (by have := HX.out; have := HL4.out; omega)) ?_
  · go_simp
    try (first | rfl | exact ⟨rfl, rfl⟩)
  rintro e w6 ⟨a6, d6, rfl, O6, q6, i6⟩
  obtain ⟨k1, k2, k3⟩ := P5d.keep q6
  refine ⟨_, rfl, .inr ⟨k1.cell, (blk6 k2).2.2.1, (blk6 k2).2.2.2.1⟩, ?_⟩
  obtain ⟨y6, hy6⟩ : ∃ y, y4 ++ le l.mode 2 = y := ⟨_, rfl⟩
  have hl6 : y6.length = y4.length + 2 := by rw [← hy6, List.length_append, le_length]
  rw [hy6] at O6 i6 ⊢
  have HL6 := Lib.hid hl6
  clear hl6
  refine Reg.wpMainT_enter (fn := 39) (args := #[.slice a6 y6.length d6, .int .u64 l.stamp, .int .i64 8]) rfl (by simp [Region.wanted]) ?_ (put_any B a6 d6 y6 l.stamp 8 hst.1 hst.2 (by omega) w6 (HOK.out _ k3) O6 (by have := k3.size; omega) (by have := HX.out; have := HL4.out; have := HL6.out; omega)) ?_
  · go_simp
    try (first | rfl | exact ⟨rfl, rfl⟩)
  rintro e w7 ⟨a7, d7, rfl, O7, q7, i7⟩
  obtain ⟨y7, hy7⟩ : ∃ y, y6 ++ le l.stamp 8 = y := ⟨_, rfl⟩
  have hl7 : y7.length = y6.length + 8 := by rw [← hy7, List.length_append, le_length]
  rw [hy7] at O7 i7 ⊢
  have HL7 : Hid (y7.length = xs.length + 12) := Lib.hid (by have := HL4.out; have := HL6.out; omega)
  clear hl7
  have q67 := grown_ish q6 q7 i6
  have i67 := ish_trans i6 q6.size i7
  obtain ⟨k1, k2, k3⟩ := P5d.keep q67
  refine ⟨_, rfl, .inr ⟨k1.cell, (blk6 k2).2.2.1, (blk6 k2).2.2.2.1⟩, ?_⟩
  obtain ⟨w8, hw8, P8⟩ := P5d.step q67 O7 i67
  have z0 := k1.frozen
  have z1 := k1.cell
  refine Reg.wpMainT_skip (w' := w8) rfl (by simp [Region.wanted]) ?_ (.inl rfl) ?_
  · go_simp
    try (first | rfl | exact ⟨rfl, rfl⟩)
  refine Reg.wpMainT_nil ?_
  simp only [List.getElem_toArray, List.getElem_cons_succ, List.getElem_cons_zero, Act.put, List.setIfInBounds_toArray, List.set_cons_zero, List.set_cons_succ]
  have HY7 := Lib.hid (And.intro hy6 hy7)
  clear hy6 hy7 HL6 q67 i67 k1 k2 k3 q6 q7 i6 i7 O6 O7 z0 z1 hw8 b0 b1 b2 b3 b4 b5 c0 P5 P5d HL4 e4
  obtain ⟨g9, hg9⟩ : ∃ g, w8.heap.size = g := ⟨_, rfl⟩
  obtain ⟨w9, v10, w10, hw9, hap, O10, q10, i10⟩ := append_lit 22 B a7 d7 y7 [(nm.size : Int)] w8 P8.own (by have := HL7.out; have := HX.out; simp; omega) (by have := P8.size; omega)
  obtain ⟨y10, hy10⟩ : ∃ y, y7 ++ [(nm.size : Int)] = y := ⟨_, rfl⟩
  have HL10 : Hid (y10.length = xs.length + 13) := Lib.hid (by rw [← hy10, List.length_append]; have := HL7.out; simp; omega)
  rw [hy10] at O10
  have HY10 := Lib.hid hy10
  clear hy10
  obtain ⟨a10, d10, rfl⟩ := O10.form
  obtain ⟨v11, w11, hap2, O11, q11, i11⟩ := append_str 22 B a10 d10 y10 nm w10 O10 (by have := HL10.out; have := HX.out; omega) (by have := P8.size; have := q10.size; omega)
  obtain ⟨y11, hy11⟩ : ∃ y, y10 ++ bytesI nm = y := ⟨_, rfl⟩
  have HL11 : Hid (y11.length ≤ xs.length + 76) := Lib.hid (by rw [← hy11, List.length_append, bytesI_length]; have := HL10.out; omega)
  rw [hy11] at O11
  have HY11 := Lib.hid hy11
  clear hy11
  obtain ⟨a11, d11, rfl⟩ := O11.form
  have q1011 := grown_ish q10 q11 i10
  have i1011 := ish_trans i10 q10.size i11
  obtain ⟨w12, hw12, P12⟩ := P8.step q1011 O11 i1011
  rw [hg9] at hap
  simp only [List.map_cons, List.map_nil, List.length_cons, List.length_nil, Nat.zero_add, Nat.reduceAdd] at hw9 hap
  have e5 : IntKind.u8.wrap (nm.size : Int) = (nm.size : Int) := by rw [IntKind.wrap_u8]; omega
  obtain ⟨k1, k2, k3⟩ := P8.keep q1011
  have z0 := k1.frozen
  have z1 := k1.cell
  have c0 := P8.box.cell
  go_upto_region 5 with (first
    | (at_builtin; refine wpList_append_run rfl _ _ 22 22 rfl (by simp [Act.eval]) (by simp [Act.eval]) hap ?_)
    | (at_builtin; refine wpList_append_run rfl _ _ 22 9 rfl (by simp [Act.eval]) (by simp [Act.eval]) hap2 ?_))
  clear hap hap2 hw9 hw12 q10 i10 q11 i11 O10 O11 q1011 i1011 k1 k2 k3 z0 z1 c0 e5 P8
  obtain ⟨b0, b1, b2, b3, b4, b5⟩ := blk6 P12.leaf
  have c0 := P12.box.cell
  by_cases ty1 : l.ty = 1
  · have e6 : IntKind.u64.wrap (l.data.length : Int) = (l.data.length : Int) := u64_in ⟨by omega, by omega⟩
    have e7 : (1 : Int) = l.ty := ty1.symm
    obtain ⟨tyv, htyv⟩ : ∃ t, l.ty = t := ⟨_, rfl⟩
    have hput := put_any B a11 d11 y11 (l.data.length : Int) 4 (by omega) (by omega) (by omega) w12 (HOK.out _ P12.grown) P12.own (by have := P12.size; omega) (by have := HX.out; have := HL11.out; omega)
    obtain ⟨y13, hy13⟩ : ∃ y, y11 ++ le (l.data.length : Int) 4 = y := ⟨_, rfl⟩
    have HL13 : Hid (y13.length ≤ xs.length + 80) := Lib.hid (by rw [← hy13, List.length_append, le_length]; have := HL11.out; omega)
    rw [hy13] at hput
    have HY13 := Lib.hid hy13
    have HPut := Lib.hid hput
    clear hput hy13
    have hb1 : w12.cell? ⟨g2, 1, none⟩ = some (.int .i64 1) := by rw [b1, ty1]
    clear b1 e7
    go_wp2_with (first
      | (go_at_call 39; refine HPut.out.mono ?_; rintro e w13 ⟨a13, d13, rfl, O13, q13, i13⟩; go_loud (obtain ⟨w14, hw14, P14⟩ := P12.step q13 O13 i13); go_loud (obtain ⟨k1, k2, k3⟩ := P12.keep q13); have z0 := k1.frozen; have z1 := k1.cell; go_loud (obtain ⟨b0', b1', b2', b3', b4', b5'⟩ := blk6 P14.leaf))
      | (go_at_call 65; refine (stretches_any da l.data.length dd _).mono ?_; rintro e wq ⟨rfl, hwq⟩))
    obtain ⟨gi, hgi⟩ : ∃ g, w14.heap.size = g := ⟨_, rfl⟩
    obtain ⟨w15, hw15⟩ : ∃ w, w14.alloc (.cells #[.slice da l.data.length dd] 22) = w := ⟨_, rfl⟩
    rw [hw15]
    try rw [hgi]
    have g15 : w14.grownBy w15 none := by rw [← hw15]; exact World.grownBy_alloc _ _ none
    have P15 := P14.more g15 (fun r e => by cases e)
    have Bi : Boxed w15 gi 22 (.slice da l.data.length dd) := by rw [← hw15, ← hgi]; exact Boxed.new _ _ _
    have hsz15 : gi + 1 = w15.heap.size := by rw [← hw15, ← hgi]; simp
    have hgi1 : w.heap.size ≤ gi := by rw [← hgi]; exact P14.size
    have hne1 : gi ≠ g1 := by have h1 := (Array.getElem?_eq_some_iff.1 P14.box).1; omega
    have hne2 : gi ≠ g2 := by have h1 := (Array.getElem?_eq_some_iff.1 P14.leaf).1; omega
    have hdw : ∀ W, w.grownBy W (Value.slice A xs.length c).ownBlock → BytesAt W da l.data := fun W g => by
      by_cases hL0 : l.data = []
      · exact .inl hL0
      · exact hD.grown g (fun a e e2 => by
          have h1 := hdB a (by unfold datA; rw [if_neg hL0]; exact e)
          have h2 := (World.ownsRow.lt hO a.block e2.symm).1
          omega)
    have HDW := Lib.hid hdw
    have HDB := Lib.hid hdB
    clear hdw hw15 hgi hw14 z0 z1 k1 k2 k3 q13 i13 O13 b0 b2 b3 b4 b5 b0' b1' b2' b3' b4' b5' c0 hb1 hwq P14 P12 HPut hO hD hdB
    refine wpIn_wide.1 (wp_range_box (n := 9) 8 102 (fun x : Nat × Nat × Nat => #[.int .i64 x.1, .int .i64 x.2.1, .int .i64 x.2.2]) rfl (by decide) (gf := 78) (lb := #[.pointer (some ⟨gi, 0, none⟩)]) rfl trivial (enters_of Tryd.func78 (by kernel_rfl) rfl)
      (enc := fun x : Nat × Nat × Nat => .agg #[.int .i64 x.1, .int .i64 x.2.1, .int .i64 x.2.2]) (stretC_gives 8 gi (by decide) da dd l.data hdd (by omega) w15 (HOK.out _ P15.grown) Bi (HDW.out _ P15.grown)) KeepD.trans ?hKb (fun r h => h.elim)
      (fun pre W => ∃ v, PcS w W B g1 g2 (Value.slice A xs.length c).ownBlock #[.string l.path, .int .i64 l.ty, .int .i64 l.mode, .int .u64 l.stamp, .slice da l.data.length dd, .string l.tgt] v (y13 ++ pre.flatMap (stretB l.data)) ∧ Boxed W gi 22 (.slice da l.data.length dd))
      ?hI ⟨_, by simpa using P15, Bi⟩ ?assign ?body ?done)
    case hKb =>
      intro W j o' hj
      refine ⟨World.putObj_heap_other (by omega), World.putObj_heap_other (by omega), fun a e => World.putObj_heap_other (by have := HDB.out a e; omega)⟩
    case hI =>
      rintro pre X Y row ⟨v, hP, hBi⟩ hG hrow
      have hr : ∀ r, row = some r → w.heap.size ≤ r ∧ ∃ o : Obj, X.heap[r]? = some o ∧ o.isCells = false := fun r e => by
        rcases hrow r e with h | ⟨h1, h2⟩
        · exact h.elim
        · exact ⟨by omega, h2⟩
      refine ⟨v, hP.walk hG hr, hBi.kept hG (fun e => ?_)⟩
      obtain ⟨_, o, ho, hc⟩ := hr gi e.symm
      rw [show X.heap[gi]? = _ from hBi] at ho
      injection ho with ho
      subst ho
      cases hc
    case assign =>
      rintro j pre x W K ⟨v, hP, hBi⟩ hK
      obtain ⟨x0, x1, x2⟩ := x
      gi_wp2
      have hlt := hBi.lt
      have hWs := hP.size
      refine hK W.heap.size _ (KeepsOthers.from (KeepsOthers.alloc W _) _) ⟨Below.heap_alloc W _ 0 (by omega), Below.heap_alloc W _ gi hlt, fun a e => Below.heap_alloc W _ a.block (by have := HDB.out a e; omega)⟩ ⟨v, hP.more (World.grownBy_alloc W _ none) (fun r e => by cases e), hBi.kept (World.grownBy_alloc W _ none) (by simp)⟩ (by omega) (World.alloc_heap_new W _)
    case body =>
      rintro j pre x post gs W hx ⟨v, hP, hBi⟩ hgs hS
      obtain ⟨x0, x1, x2⟩ := x
      have hmem := stretS_mem l.data l.data.length 0 (Nat.zero_le _) (x0, x1, x2) (by
        have h1 : (x0, x1, x2) ∈ stretX l.data := by rw [hx]; simp
        exact h1)
      obtain ⟨hx0, hx12, hx2⟩ := hmem
      dsimp only at hx0 hx12 hx2
      have hlen : (y13 ++ pre.flatMap (stretB l.data)).length ≤ 1300000000 := by
        have h1 := stretX_len l.data
        rw [hx, List.flatMap_append, List.length_append] at h1
        rw [List.length_append]
        have := HL13.out; have := HX.out
        omega
      obtain ⟨ys, hys⟩ : ∃ ys, y13 ++ pre.flatMap (stretB l.data) = ys := ⟨_, rfl⟩
      rw [hys] at hP hlen
      have HYs := Lib.hid hys
      have HLs := Lib.hid hlen
      clear hys hlen hx
      obtain ⟨av, dv, rfl⟩ := hP.form
      have hPd := hP.more (show W.grownBy W.drew none from ⟨rfl, rfl, rfl, Nat.le_refl _, fun _ _ _ => rfl⟩) (fun r e => by cases e)
      have hlt := hBi.lt
      obtain ⟨wa, vb, wb, hwa, hap, Ob, qb, ib⟩ := append_lit 22 B av dv ys [(x0 : Int)] W.drew hPd.own (by have := HLs.out; simp; omega) (by have := hPd.size; omega)
      obtain ⟨yb, hyb⟩ : ∃ y, ys ++ [(x0 : Int)] = y := ⟨_, rfl⟩
      have HLb : Hid (yb.length = ys.length + 1) := Lib.hid (by rw [← hyb]; simp)
      rw [hyb] at Ob
      have HYb := Lib.hid hyb
      clear hyb
      obtain ⟨ab, db, rfl⟩ := Ob.form
      obtain ⟨gw, hgw⟩ : ∃ g, W.drew.heap.size = g := ⟨_, rfl⟩
      rw [hgw] at hap
      simp only [List.map_cons, List.map_nil, List.length_cons, List.length_nil, Nat.zero_add, Nat.reduceAdd] at hwa hap
      have e8 : IntKind.u8.wrap (x0 : Int) = (x0 : Int) := by rw [IntKind.wrap_u8]; omega
      have e9 : IntKind.u64.wrap (x2 : Int) = (x2 : Int) := u64_in ⟨by omega, by omega⟩
      have s0 := hPd.box.cell
      have hSd : W.drew.heap[gs]? = some (.cells #[.int .i64 x0, .int .i64 x1, .int .i64 x2] 102 (0, 0)) := hS
      obtain ⟨t0, t1, t2⟩ := blk3 hSd
      simp only [List.setIfInBounds_toArray, List.set_cons_zero, List.set_cons_succ]
      gi_upto_region 10 with fail
      refine Reg.wpIn_region_late (fun w' => w'.cell? ⟨g1, 0, none⟩ = some (.slice av ys.length dv) ∧ w'.cell? ⟨gs, 0, none⟩ = some (.int .i64 x0) ∧ w'.cell? ⟨gs, 2, none⟩ = some (.int .i64 x2)) 10 [0, 1, 2, 3, 6, 7, 8] [4, 5, 9, 10] (by kernel_rfl) (by kernel_rfl) (by kernel_rfl) ⟨s0, t0, t2⟩ (fun a w h => h.elim) ?_
      iterate 7
        refine Reg.wpLateT_step (v := ?_) rfl ?_ (fun w' hS => ?_) ?_
        rotate_left
        · simp [Region.wanted]
        · obtain ⟨s1, s2, s3⟩ := hS
          go_simp
          try (first | rfl | exact ⟨rfl, rfl⟩)
      have ga : W.drew.grownBy wa none := by rw [← hwa]; exact World.grownBy_alloc _ _ none
      have ka := hPd.box.kept ga (by simp)
      obtain ⟨u0, u1, u2⟩ := blk3 ((ga.block gs (Array.getElem?_eq_some_iff.1 hSd).1 (by simp)).trans hSd)
      refine Reg.wpMainT_run (v := (.slice (some ⟨gw, 0, none⟩) 1 1)) (w' := wa) rfl (by simp [Region.wanted]) ?_ (.inr ⟨ka.cell, u0, u2⟩) ?_
      · go_simp
        try (first | rfl | exact ⟨rfl, rfl⟩)
      obtain ⟨kb, _, kb3⟩ := hPd.keep qb
      have hSb := (qb.block gs (Array.getElem?_eq_some_iff.1 hSd).1 (own_ne3 hPd.own hSd (by decide))).trans hSd
      refine Reg.wpMainT_append rfl rfl _ _ 22 22 rfl (by simp [Act.eval, Act.put]; try rfl) (by simp [Act.eval, Act.put]; try rfl) hap (.inr ⟨kb.cell, (blk3 hSb).1, (blk3 hSb).2.2⟩) ?_
      have hput := put_any B ab db yb (x2 : Int) 4 (by omega) (by omega) (by omega) wb (HOK.out _ kb3) Ob (by have := kb3.size; omega) (by have := HLs.out; have := HLb.out; omega)
      obtain ⟨yc, hyc⟩ : ∃ y, yb ++ le (x2 : Int) 4 = y := ⟨_, rfl⟩
      have HLc : Hid (yc.length = ys.length + 5) := Lib.hid (by rw [← hyc, List.length_append, le_length]; have := HLb.out; omega)
      rw [hyc] at hput
      have HYc := Lib.hid hyc
      clear hyc
      refine Reg.wpMainT_enter (fn := 39) (args := #[.slice ab yb.length db, .int .u64 x2, .int .i64 4]) rfl (by simp [Region.wanted]) ?_ hput ?_
      · go_simp
        try (first | rfl | exact ⟨rfl, rfl⟩)
      rintro e wc ⟨ac, dc, rfl, Oc, qc, ic⟩
      have qbc := grown_ish qb qc ib
      have ibc := ish_trans ib qb.size ic
      obtain ⟨kc, _, kc3⟩ := hPd.keep qbc
      have hSc := (qbc.block gs (Array.getElem?_eq_some_iff.1 hSd).1 (own_ne3 hPd.own hSd (by decide))).trans hSd
      refine ⟨_, rfl, .inr ⟨kc.cell, (blk3 hSc).1, (blk3 hSc).2.2⟩, ?_⟩
      obtain ⟨we, hwe, hPe⟩ := hPd.step qbc Oc ibc
      have hT := hPd.turns qbc (.slice ac yc.length dc) hB0 hB (gi := gi) (x := .slice da l.data.length dd) hBi hne1 (da := datA l.data da) HDB.out w15.heap.size
      rw [hwe] at hT
      have hSe : we.heap[gs]? = some (.cells #[.int .i64 x0, .int .i64 x1, .int .i64 x2] 102 (0, 0)) := by
        rw [← hwe]
        have hg1 := hP.box.lt
        have h1 := (Array.getElem?_eq_some_iff.1 P15.box).1
        exact ((grownBy_setCell' wc g1 _).block gs (Array.getElem?_eq_some_iff.1 hSc).1 (fun e => by injection e with e; omega)).trans hSc
      have z0 := kc.frozen
      have z1 := kc.cell
      refine Reg.wpMainT_skip (w' := we) rfl (by simp [Region.wanted]) ?_ (.inl rfl) ?_
      · go_simp
        try (first | rfl | exact ⟨rfl, rfl⟩)
      refine Reg.wpMainT_nil ?_
      simp only [List.getElem_toArray, List.getElem_cons_succ, List.getElem_cons_zero, Act.put, List.setIfInBounds_toArray, List.set_cons_zero, List.set_cons_succ]
      have HT2 := Lib.hid hT
      have hBe : Boxed we gi 22 (.slice da l.data.length dd) := hT.2.2.1.trans hBi
      clear hT z0 z1 hwe kc kc3 qbc ibc ic qc Oc hput kb kb3 hap hwa ka u0 u1 u2 t0 t1 t2 s0 e8 e9 hPd hSc hSb
      obtain ⟨t0, t1, t2⟩ := blk3 hSe
      rcases hx0 with rfl | rfl
      · have hq : y13 ++ (pre ++ [(0, x1, x2)]).flatMap (stretB l.data) = yc := by
          rw [← HYc.out, ← HYb.out, ← HYs.out]
          simp [stretB]
        rw [← hq, ty1] at hPe
        have HPe := Lib.hid hPe
        clear hPe hq
        gi_wp2
        exact ⟨⟨HT2.out.1.size, HT2.out.1.same⟩, ⟨HT2.out.2.1, HT2.out.2.2.1, HT2.out.2.2.2⟩, ⟨_, HPe.out⟩, hBe⟩
      · have hDe := HDW.out we hPe.grown
        obtain ⟨gd, od, rfl, hBD⟩ : ∃ gd od, da = some ⟨gd, od, none⟩ ∧ BytesAt we (some ⟨gd, od, none⟩) l.data := by
          rcases hDe with h | ⟨gd, od, h1, h2⟩
          · rw [h] at hx12; simp at hx12; omega
          · subst h1; exact ⟨gd, od, rfl, .inr ⟨gd, od, rfl, h2⟩⟩
        have hPf := hPe.more (show we.grownBy we.drew none from ⟨rfl, rfl, rfl, Nat.le_refl _, fun _ _ _ => rfl⟩) (fun r e => by cases e)
        obtain ⟨sd, hsd⟩ : ∃ s, (l.data.drop x1).take x2 = s := ⟨_, rfl⟩
        have hsl : sd.length = x2 := by rw [← hsd, List.length_take, List.length_drop]; omega
        have hBs : BytesAt we.drew (some ⟨gd, od + x1, none⟩) sd := by rw [← hsd]; exact hBD.sub x1 x2
        obtain ⟨vf, wf, hap, Of, qf, jf⟩ := append_row 22 B ac dc yc sd (some ⟨gd, od + x1, none⟩) (dd - x1) we.drew hPf.own hBs (fun e => by cases e) (by have := HLs.out; have := HLc.out; omega) (by have := hPf.size; omega)
        rw [hsl] at hap
        obtain ⟨yf, hyf⟩ : ∃ y, yc ++ sd = y := ⟨_, rfl⟩
        rw [hyf] at Of
        have hq : y13 ++ (pre ++ [(1, x1, x2)]).flatMap (stretB l.data) = yf := by
          rw [← hyf, ← HYc.out, ← HYb.out, ← HYs.out, ← hsd]
          simp [stretB]
        have HQ := Lib.hid hq
        clear hq hyf hsd
        obtain ⟨af, df, rfl⟩ := Of.form
        obtain ⟨wg, hwg, hPg⟩ := hPf.step qf Of jf
        obtain ⟨kf, kf2, _⟩ := hPf.keep qf
        have hT := hPf.turns qf (.slice af yf.length df) hB0 hB (gi := gi) (x := .slice (some ⟨gd, od, none⟩) l.data.length dd) hBe hne1 (da := datA l.data (some ⟨gd, od, none⟩)) HDB.out w15.heap.size
        rw [hwg] at hT
        have HT3 := Lib.hid hT
        have hBg : Boxed wg gi 22 (.slice (some ⟨gd, od, none⟩) l.data.length dd) := hT.2.2.1.trans hBe
        clear hT
        obtain ⟨x3, hx3⟩ : ∃ x3, x1 + x2 = x3 := ⟨_, rfl⟩
        have e8 : IntKind.i64.wrap ((x1 : Int) + (x2 : Int)) = (x3 : Int) := by rw [IntWalk.i64_in _ ⟨by omega, by omega⟩]; omega
        have l1 : (0 : Int) ≤ (x3 : Int) := by omega
        have l2 : x1 ≤ x3 := by omega
        have l3 : (x3 : Int) ≤ (dd : Int) := by omega
        have l4 : x3 - x1 = x2 := by omega
        have l5 : ¬ (dd = x1) := by omega
        clear hx3
        have s0 := hPf.box.cell
        have s1 := (blk6 hPf.leaf).2.2.2.2.1
        have hSf : we.drew.heap[gs]? = some (.cells #[.int .i64 1, .int .i64 x1, .int .i64 x2] 102 (0, 0)) := hSe
        obtain ⟨v0, v1, v2⟩ := blk3 hSf
        have z0 := kf.frozen
        have z1 := kf.cell
        gi_upto_region 12 with fail
        refine Reg.wpIn_region_late (fun w' => w'.cell? ⟨g1, 0, none⟩ = some (.slice ac yc.length dc) ∧ w'.cell? ⟨g2, 4, none⟩ = some (.slice (some ⟨gd, od, none⟩) l.data.length dd) ∧ w'.cell? ⟨gs, 1, none⟩ = some (.int .i64 x1) ∧ w'.cell? ⟨gs, 2, none⟩ = some (.int .i64 x2)) 12 [0, 1, 2, 3, 4, 5, 6, 7, 8, 9, 10] [11, 12] (by kernel_rfl) (by kernel_rfl) (by kernel_rfl) ⟨s0, s1, v1, v2⟩ (fun a w h => h.elim) ?_
        iterate 11
          refine Reg.wpLateT_step (v := ?_) rfl ?_ (fun w' hS => ?_) ?_
          rotate_left
          · simp [Region.wanted]
          · obtain ⟨q1, q2, q3, q4⟩ := hS
            go_simp
            try (first | rfl | exact ⟨rfl, rfl⟩)
        refine Reg.wpMainT_append rfl rfl _ _ 22 22 rfl (by simp [Act.eval, Act.put]; try rfl) (by simp [Act.eval, Act.put]; try rfl) hap (.inr ⟨kf.cell, (blk6 kf2).2.2.2.2.1, (blk3 ((qf.block gs (Array.getElem?_eq_some_iff.1 hSf).1 (own_ne3 hPf.own hSf (by decide))).trans hSf)).2.1, (blk3 ((qf.block gs (Array.getElem?_eq_some_iff.1 hSf).1 (own_ne3 hPf.own hSf (by decide))).trans hSf)).2.2⟩) ?_
        refine Reg.wpMainT_skip (w' := wg) rfl (by simp [Region.wanted]) ?_ (.inl rfl) ?_
        · go_simp
          try (first | rfl | exact ⟨rfl, rfl⟩)
        refine Reg.wpMainT_nil ?_
        simp only [List.getElem_toArray, List.getElem_cons_succ, List.getElem_cons_zero, Act.put, List.setIfInBounds_toArray, List.set_cons_zero, List.set_cons_succ]
        rw [← HQ.out, ty1] at hPg
        have HPg := Lib.hid hPg
        clear hPg
        gi_wp2
        exact ⟨KeepsFrom.trans ⟨HT2.out.1.size, HT2.out.1.same⟩ ⟨HT3.out.1.size, HT3.out.1.same⟩, KeepD.trans ⟨HT2.out.2.1, HT2.out.2.2.1, HT2.out.2.2.2⟩ ⟨HT3.out.2.1, HT3.out.2.2.1, HT3.out.2.2.2⟩, ⟨_, HPg.out⟩, hBg⟩
    case done =>
      rintro D W hDs ⟨v, hP, hBi⟩ hK
      have hfin : y13 ++ (stretX l.data).flatMap (stretB l.data) = Z := by
        rw [← HZ.out, ← HR.out, ← HY13.out, ← HY11.out, ← HY10.out, ← HY7.out.2, ← HY7.out.1, ← HY4.out]
        unfold pieceB pieceH pieceT cutB
        rw [if_pos ty1, hm, hnm, show m - 1 = k by omega]
        simp only [List.append_assoc]
      rw [hfin] at hP
      have c0 := hP.box.cell
      obtain ⟨av, dv, rfl⟩ := hP.form
      have hP2 := hP.walk (grownBy_putObj' W D (.deferred none)) (fun r e => by cases e; exact ⟨by omega, _, hK, rfl⟩)
      have HP2 := Lib.hid hP2
      clear hP hP2 hfin
      go_wp2_with fail
      exact ⟨by simp, .inl ⟨_, _, rfl, run_takeDeferred hK, _, results_tmp rfl _ _ _, av, dv, rfl, HP2.out.own, HP2.out.grown, HP2.out.ish⟩⟩
  · by_cases ty3 : l.ty = 3
    · have hb1 : w12.cell? ⟨g2, 1, none⟩ = some (.int .i64 3) := by rw [b1, ty3]
      clear b1
      have htg : 1 ≤ l.tgt.size ∧ l.tgt.size ≤ 127 := by
        have h := HT.out.2.2 ty3
        unfold targetB at h
        simp only [Bool.and_eq_true, decide_eq_true_eq] at h
        exact h.1
      have Pd := P12.more (show w12.grownBy w12.drew none from ⟨rfl, rfl, rfl, Nat.le_refl _, fun _ _ _ => rfl⟩) (fun r e => by cases e)
      obtain ⟨wa, vb, wb, hwa, hap, Ob, qb, ib⟩ := append_lit 22 B a11 d11 y11 [(l.tgt.size : Int)] w12.drew Pd.own (by have := HL11.out; have := HX.out; simp; omega) (by have := Pd.size; omega)
      obtain ⟨yb, hyb⟩ : ∃ y, y11 ++ [(l.tgt.size : Int)] = y := ⟨_, rfl⟩
      have HLb : Hid (yb.length = y11.length + 1) := Lib.hid (by rw [← hyb]; simp)
      rw [hyb] at Ob
      obtain ⟨ab, db, rfl⟩ := Ob.form
      obtain ⟨vc, wc, hap2, Oc, qc, ic⟩ := append_str 22 B ab db yb l.tgt wb Ob (by have := HLb.out; have := HL11.out; have := HX.out; omega) (by have := Pd.size; have := qb.size; omega)
      have hfin : yb ++ bytesI l.tgt = Z := by
        rw [← HZ.out, ← HR.out, ← hyb, ← HY11.out, ← HY10.out, ← HY7.out.2, ← HY7.out.1, ← HY4.out]
        unfold pieceB pieceH pieceT
        rw [if_neg ty1, if_pos ty3, hm, hnm, show m - 1 = k by omega]
        simp only [List.append_assoc]
      rw [hfin] at Oc
      clear hfin hyb
      obtain ⟨av, dv, rfl⟩ := Oc.form
      obtain ⟨gw, hgw⟩ : ∃ g, w12.drew.heap.size = g := ⟨_, rfl⟩
      rw [hgw] at hap
      simp only [List.map_cons, List.map_nil, List.length_cons, List.length_nil, Nat.zero_add, Nat.reduceAdd] at hwa hap
      have e8 : IntKind.u8.wrap (l.tgt.size : Int) = (l.tgt.size : Int) := by rw [IntKind.wrap_u8]; omega
      have qbc := grown_ish qb qc ib
      have ibc := ish_trans ib qb.size ic
      obtain ⟨we, hwe, hPe⟩ := Pd.step qbc Oc ibc
      have ga : w12.drew.grownBy wa none := by rw [← hwa]; exact World.grownBy_alloc _ _ none
      have ka := Pd.box.kept ga (by simp)
      have ka2 := (ga.block g2 (Array.getElem?_eq_some_iff.1 Pd.leaf).1 (by simp)).trans Pd.leaf
      obtain ⟨kb, kb2, _⟩ := Pd.keep qb
      obtain ⟨kc, kc2, _⟩ := Pd.keep qbc
      have z0 := kc.frozen
      have z1 := kc.cell
      have cE := hPe.box.cell
      go_upto_region 14 with fail
      refine Reg.wp_region_late (fun w' => w'.cell? ⟨g1, 0, none⟩ = some (.slice a11 y11.length d11) ∧ w'.cell? ⟨g2, 5, none⟩ = some (.string l.tgt)) 10 [0, 1, 2, 3, 4, 7, 8] [5, 6, 9, 10] (by kernel_rfl) (by kernel_rfl) ⟨Pd.box.cell, (blk6 Pd.leaf).2.2.2.2.2⟩ ?_
      iterate 7
        refine Reg.wpLateT_step (v := ?_) rfl ?_ (fun w' hS => ?_) ?_
        rotate_left
        · simp [Region.wanted]
        · obtain ⟨s1, s2⟩ := hS
          go_simp
          try (first | rfl | exact ⟨rfl, rfl⟩)
      refine Reg.wpMainT_run (v := (.slice (some ⟨gw, 0, none⟩) 1 1)) (w' := wa) rfl (by simp [Region.wanted]) ?_ (.inr ⟨ka.cell, (blk6 ka2).2.2.2.2.2⟩) ?_
      · go_simp
        try (first | rfl | exact ⟨rfl, rfl⟩)
      refine Reg.wpMainT_append rfl rfl _ _ 22 22 rfl (by simp [Act.eval, Act.put]; try rfl) (by simp [Act.eval, Act.put]; try rfl) hap (.inr ⟨kb.cell, (blk6 kb2).2.2.2.2.2⟩) ?_
      refine Reg.wpMainT_append rfl rfl _ _ 22 9 rfl (by simp [Act.eval, Act.put]; try rfl) (by simp [Act.eval, Act.put]; try rfl) hap2 (.inr ⟨kc.cell, (blk6 kc2).2.2.2.2.2⟩) ?_
      refine Reg.wpMainT_skip (w' := we) rfl (by simp [Region.wanted]) ?_ (.inl rfl) ?_
      · go_simp
        try (first | rfl | exact ⟨rfl, rfl⟩)
      refine Reg.wpMainT_nil ?_
      simp only [List.getElem_toArray, List.getElem_cons_succ, List.getElem_cons_zero, Act.put, List.setIfInBounds_toArray, List.set_cons_zero, List.set_cons_succ]
      have HPe := Lib.hid hPe
      clear hPe hap hap2 hwa hwe z0 z1 kb kb2 kc kc2 ka ka2 qb qc ib ic qbc ibc Ob Oc
      go_wp2_with fail
      exact ⟨_, results_tmp rfl _ _ _, av, dv, rfl, HPe.out.own, HPe.out.grown, HPe.out.ish⟩
    · have ty2 : l.ty = 2 := by omega
      have hb1 : w12.cell? ⟨g2, 1, none⟩ = some (.int .i64 2) := by rw [b1, ty2]
      clear b1
      have hfin : y11 = Z := by
        rw [← HZ.out, ← HR.out, ← HY11.out, ← HY10.out, ← HY7.out.2, ← HY7.out.1, ← HY4.out]
        unfold pieceB pieceH pieceT
        rw [if_neg ty1, if_neg ty3, hm, hnm, show m - 1 = k by omega]
        simp only [List.append_assoc, List.append_nil]
      subst hfin
      have HP := Lib.hid P12
      clear P12 ty1 ty3
      go_wp2_with fail
      exact ⟨_, results_tmp rfl _ _ _, a11, d11, rfl, HP.out.own, HP.out.grown, HP.out.ish⟩
end Go.Proofs.YtlnaeppbhjmocaaDoor
