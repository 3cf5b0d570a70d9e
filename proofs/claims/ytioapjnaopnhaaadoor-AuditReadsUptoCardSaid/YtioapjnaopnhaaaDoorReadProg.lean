/- audit.Read, walked: its contract over 'readL'. No conditions beyond the text's length. -/
import Derived.Test.YtioapjnaopnhaaaDoorRead
import Derived.Test.YtioapjnaopnhaaaDoorShowProg
import Derived.Defers
import Derived.Recover
import Derived.Laws.Pointers
set_option linter.unusedSimpArgs false
set_option linter.unusedVariables false
namespace Go.Proofs.YtioapjnaopnhaaaDoor
open Go.RowKit Go.Proofs

/-- what the text functions of Go's library look at besides -/
structure More (w : World) : Prop where
  maxLen : ∃ m, w.cell? ⟨4, 0, none⟩ = some (.int .i64 m)
  errS : ∃ ev, w.cell? ⟨2, 0, none⟩ = some ev ∧ (ev = .nilIface ∨ ∃ te pe, ev = .iface te pe)
  errR : ∃ ev, w.cell? ⟨3, 0, none⟩ = some ev ∧ (ev = .nilIface ∨ ∃ te pe, ev = .iface te pe)
theorem More.fr {w w' : World} (h : More w) (q : Fr w w') : More w' where
  maxLen := by obtain ⟨m, h⟩ := h.maxLen; exact ⟨m, q.cell h⟩
  errS := by obtain ⟨m, h, h'⟩ := h.errS; exact ⟨m, q.cell h, h'⟩
  errR := by obtain ⟨m, h, h'⟩ := h.errR; exact ⟨m, q.cell h, h'⟩

theorem fr_bytes {w : World} (h : Ok w) (e : TypeId) (s : ByteArray) : Fr w (Lib.bytesWorld w e s) := Fr.of h (⟨rfl, rfl, rfl, by rw [Lib.bytesWorld_size]; omega, fun k hk => Lib.bytesWorld_at_old w e s k hk⟩)
theorem fr_drewN {w : World} (h : Ok w) (n : Nat) : Fr w (w.drewN n) := Fr.of h ⟨rfl, rfl, rfl, Nat.le_refl _, fun _ _ => rfl⟩

/-- strconv.Atoi at every text -/
theorem atoi_any (x : List UInt8) (w : World) (hw : Ok w) (hm : More w) (hx : x.length < 4294967281) :
    Calls Tryd.prog 43 #[.string ⟨x.toArray⟩] w fun e w' => Fr w w' ∧ ((∃ v, Lib.atoiAll x = .ok v ∧ e = .returned (.tuple #[.int .i64 v, .nilIface])) ∨
      ((∀ v, Lib.atoiAll x ≠ .ok v) ∧ ∃ v N, e = .returned (.tuple #[.int .i64 v, .iface 92 (.pointer (some ⟨N, 0, none⟩))]))) := by
  have hsz : (⟨x.toArray⟩ : ByteArray).size = x.length := by simp [ByteArray.size]
  cases h : Lib.atoiAll x with
  | ok v =>
    refine (Tryd.strconv_Atoi_ok ⟨x.toArray⟩ (by rw [hsz]; omega) v (by simpa using h) w).mono ?_
    rintro e w' ⟨rfl, rfl | ⟨t, rfl⟩⟩
    · exact ⟨Fr.refl hw, .inl ⟨v, rfl, rfl⟩⟩
    · exact ⟨fr_bytes hw _ _, .inl ⟨v, rfl, rfl⟩⟩
  | range =>
    obtain ⟨ev, h1, h2⟩ := hm.errR
    refine (Tryd.strconv_Atoi_range ⟨x.toArray⟩ (by rw [hsz]; omega) (by simpa using h) ev w h1 h2).mono ?_
    rintro e w' ⟨N, rfl, _, _, hb⟩
    exact ⟨Fr.of hw hb, .inr ⟨(fun v h => by cases h), _, N, rfl⟩⟩
  | _ =>
    obtain ⟨ev, h1, h2⟩ := hm.errS
    refine (Tryd.strconv_Atoi_syntax ⟨x.toArray⟩ (by rw [hsz]; omega) (by simpa using h) ev w h1 h2).mono ?_
    rintro e w' ⟨N, rfl, _, _, hb⟩
    exact ⟨Fr.of hw hb, .inr ⟨(fun v h => by cases h), _, N, rfl⟩⟩

/-- strconv.ParseUint(s, 10, 64) at every text -/
theorem parseU_any (x : List UInt8) (w : World) (hw : Ok w) (hm : More w) (hx : x.length < 4294967281) :
    Calls Tryd.prog 30 #[.string ⟨x.toArray⟩, .int .i64 10, .int .i64 64] w fun e w' => Fr w w' ∧ ((∃ v, Lib.parseUintB 64 x = .ok v ∧ e = .returned (.tuple #[.int .u64 v, .nilIface])) ∨
      ((∀ v, Lib.parseUintB 64 x ≠ .ok v) ∧ ∃ v N, e = .returned (.tuple #[.int .u64 v, .iface 92 (.pointer (some ⟨N, 0, none⟩))]))) := by
  have hsz : (⟨x.toArray⟩ : ByteArray).size = x.length := by simp [ByteArray.size]
  cases h : Lib.parseUintB 64 x with
  | ok v =>
    refine (Tryd.strconv_ParseUint_10_at64_ok ⟨x.toArray⟩ (by rw [hsz]; omega) v (by simpa using h) w).mono ?_
    rintro e w' ⟨rfl, rfl | rfl⟩
    · exact ⟨Fr.refl hw, .inl ⟨v, rfl, rfl⟩⟩
    · exact ⟨fr_bytes hw _ _, .inl ⟨v, rfl, rfl⟩⟩
  | range =>
    obtain ⟨ev, h1, h2⟩ := hm.errR
    refine (Tryd.strconv_ParseUint_10_at64_range ⟨x.toArray⟩ (by rw [hsz]; omega) (by simpa using h) ev w h1 h2).mono ?_
    rintro e w' ⟨N, rfl, _, _, hb⟩
    exact ⟨Fr.of hw hb, .inr ⟨(fun v h => by cases h), _, N, rfl⟩⟩
  | _ =>
    obtain ⟨ev, h1, h2⟩ := hm.errS
    refine (Tryd.strconv_ParseUint_10_at64_syntax ⟨x.toArray⟩ (by rw [hsz]; omega) (by simpa using h) ev w h1 h2).mono ?_
    rintro e w' ⟨N, rfl, _, _, hb⟩
    exact ⟨Fr.of hw hb, .inr ⟨(fun v h => by cases h), _, N, rfl⟩⟩

/-- strings.Cut at a line's end -/
theorem cut_any (t : List UInt8) (w : World) (hw : Ok w) (hm : More w) (ht : t.length < 4294967281) :
    Calls Tryd.prog 39 #[.string ⟨t.toArray⟩, .string ⟨#[10]⟩] w fun e w' => Fr w w' ∧ ((brk 10 t = none ∧ e = .returned (.tuple #[.string ⟨t.toArray⟩, .string ⟨#[]⟩, .bool false])) ∨
      ∃ a b, brk 10 t = some (a, b) ∧ e = .returned (.tuple #[.string ⟨a.toArray⟩, .string ⟨b.toArray⟩, .bool true])) := by
  have hsz : (⟨t.toArray⟩ : ByteArray).size = t.length := by simp [ByteArray.size]
  obtain ⟨m, h1⟩ := hm.maxLen
  have hc := cut_brk 10 t
  refine (Tryd.strings_Cut ⟨t.toArray⟩ ⟨#[10]⟩ m w (by rw [hsz]; exact ht) h1).mono ?_
  rintro e w' ⟨rfl, n, rfl⟩
  refine ⟨fr_drewN hw n, ?_⟩
  cases hb : brk 10 t with
  | none =>
    rw [hb] at hc
    exact .inl ⟨rfl, by simp [hc]⟩
  | some p =>
    rw [hb] at hc
    exact .inr ⟨p.1, p.2, rfl, by simp [hc]⟩

theorem cut_no (t : List UInt8) (w : World) (hw : Ok w) (hm : More w) (ht : t.length < 4294967281) (h : brk 10 t = none) :
    Calls Tryd.prog 39 #[.string ⟨t.toArray⟩, .string ⟨#[10]⟩] w fun e w' => e = .returned (.tuple #[.string ⟨t.toArray⟩, .string ⟨#[]⟩, .bool false]) ∧ Fr w w' := by
  refine (cut_any t w hw hm ht).mono ?_
  rintro e w' ⟨q, ⟨_, rfl⟩ | ⟨a, b, h2, _⟩⟩
  · exact ⟨rfl, q⟩
  · rw [h] at h2; cases h2
theorem cut_yes (t a b : List UInt8) (w : World) (hw : Ok w) (hm : More w) (ht : t.length < 4294967281) (h : brk 10 t = some (a, b)) :
    Calls Tryd.prog 39 #[.string ⟨t.toArray⟩, .string ⟨#[10]⟩] w fun e w' => e = .returned (.tuple #[.string ⟨a.toArray⟩, .string ⟨b.toArray⟩, .bool true]) ∧ Fr w w' := by
  refine (cut_any t w hw hm ht).mono ?_
  rintro e w' ⟨q, ⟨h2, _⟩ | ⟨a', b', h2, rfl⟩⟩
  · rw [h] at h2; cases h2
  · rw [h] at h2; cases h2; exact ⟨rfl, q⟩

/-- strings.Split at blanks -/
theorem split_any (t : List UInt8) (w : World) (hw : Ok w) (hm : More w) (ht : t.length < 4294967281) :
    Calls Tryd.prog 40 #[.string ⟨t.toArray⟩, .string ⟨#[32]⟩] w fun e w' => Fr w w' ∧ ∃ s, e = .returned (.slice (some ⟨s, 0, none⟩) (spl t).length (spl t).length) ∧ w.heap.size ≤ s ∧
      ∀ i x, (spl t)[i]? = some x → w'.cell? ⟨s, i, none⟩ = some (.string ⟨x.toArray⟩) := by
  have hsz : (⟨t.toArray⟩ : ByteArray).size = t.length := by simp [ByteArray.size]
  obtain ⟨m, h1⟩ := hm.maxLen
  have hsp : (Lib.splitB ⟨#[32]⟩ 0 (Lib.countB ⟨t.toArray⟩ ⟨#[32]⟩) ⟨t.toArray⟩) = (spl t).map fun x => (⟨x.toArray⟩ : ByteArray) := by
    have h2 := splitK_spl t.length t (Nat.le_refl _)
    have h3 := Lib.splitB_data ⟨#[32]⟩ 0 (Lib.countB ⟨t.toArray⟩ ⟨#[32]⟩) ⟨t.toArray⟩
    have h4 := h3.trans h2
    rw [← h4, List.map_map]
    symm
    refine (List.map_congr_left (g := id) fun x _ => rfl).trans (List.map_id _)
  have hlen : Lib.countB ⟨t.toArray⟩ ⟨#[32]⟩ + 1 = (spl t).length := by
    have h2 := Lib.splitB_all ⟨#[32]⟩ (by decide) 0 _ ⟨t.toArray⟩ rfl
    rw [hsp, List.length_map] at h2
    exact h2.symm
  refine (Tryd.strings_Split ⟨t.toArray⟩ ⟨#[32]⟩ m w (by rw [hsz]; exact ht) h1 (by decide)).mono ?_
  rintro e w' ⟨rfl, rfl⟩
  rw [hlen]
  refine ⟨(Fr.refl hw).alloc _, w.heap.size, rfl, Nat.le_refl _, fun i x hx => ?_⟩
  rw [World.cell?_alloc_new, hsp]
  simp [hx]

/-- how the reader of a number ends: with the number, or by the panic that tells the line -/
def endI (n : Int) (o : Option Int) (e : Ending) : Prop := match o with
  | some v => e = .returned (.int .i64 v)
  | none => e = .panicked [{ v := .iface 64 (.int .i64 n), recovered := false }]

set_option maxRecDepth 100000 in
theorem number_any (g : Nat) (x : List UInt8) (t : Value) (n : Int) (w : World) (hw : Ok w) (hm : More w) (H : w.heap[g]? = some (.cells #[t, .int .i64 n] 68 (0, 0))) (hx : x.length < 4294967281) :
    Calls Tryd.prog 33 #[.pointer (some ⟨g, 0, none⟩), .string ⟨x.toArray⟩] w fun e w' => Fr w w' ∧ endI n (canI x) e := by
  go_enter Tryd.func33, Tryd.ntmps33
  go_wp2_with (first
    | (go_at_call 43; refine (atoi_any x _ hw hm hx).mono ?_; rintro e wq ⟨q, ⟨v, hv, rfl⟩ | ⟨hv, v, N, rfl⟩⟩ <;> replace H := q.heap H <;> obtain ⟨c0, c1⟩ := blk2 H)
    | (go_at_call 18; refine (Itoa v (atoi_bound hv) _ q.ok).mono ?_; rintro e wr ⟨rfl, q2⟩; replace H := q2.heap H; replace q := q.trans q2; obtain ⟨c0, c1⟩ := blk2 H))
  · have hne : ¬ Lib.itoa v = x := by simpa using ‹(!Lib.itoa v == x) = true›
    refine ⟨rfl, q, ?_⟩
    have : canI x = none := by unfold canI; rw [hv]; exact if_neg hne
    rw [this]; rfl
  · have hne : Lib.itoa v = x := by simpa using ‹(!Lib.itoa v == x) = false›
    go_ret
    have : canI x = some v := by unfold canI; rw [hv]; exact if_pos hne
    exact ⟨q, by rw [this]; rfl⟩
  · refine ⟨rfl, q, ?_⟩
    have : canI x = none := by
      unfold canI
      split
      · rename_i h; exact absurd h (hv _)
      · rfl
    rw [this]; rfl

/-- w' is w, but for block g -/
structure Fe (g : Nat) (w w' : World) : Prop where
  below : Below g w w'
  above : ∀ k, k < w.heap.size → k ≠ g → w'.heap[k]? = w.heap[k]?
  ok : Ok w'
  more : More w'
theorem Fe.fr {g : Nat} {w0 w w' : World} (f : Fr w0 w) (h : Fe g w w') (hg : w0.heap.size ≤ g) : Fr w0 w' := ⟨f.below.trans (h.below.mono hg), h.ok⟩
theorem Fe.of {g : Nat} {w w' : World} (h : Fr w w') (hm : More w') (hg : g ≤ w.heap.size) : Fe g w w' := ⟨h.below.mono hg, fun k hk _ => h.below.block k hk, h.ok, hm⟩
theorem Fe.heap {g : Nat} {w w' : World} (h : Fe g w w') {k : Nat} {o : Obj} (hk : w.heap[k]? = some o) (hne : k ≠ g) : w'.heap[k]? = some o :=
  (h.above k (Array.getElem?_eq_some_iff.1 hk).1 hne).trans hk

theorem Fe.refl {g : Nat} {w : World} (h : Ok w) (hm : More w) : Fe g w w := ⟨Below.refl _ _, fun _ _ _ => rfl, h, hm⟩
theorem Fe.trans {g : Nat} {a b c : World} (h : Fe g a b) (k : Fe g b c) : Fe g a c :=
  ⟨h.below.trans k.below, fun i hi hne => (k.above i (Nat.lt_of_lt_of_le hi h.below.size) hne).trans (h.above i hi hne), k.ok, k.more⟩
theorem Fe.cell {g : Nat} {w w' : World} (h : Fe g w w') {p : Addr} {v : Value} (hc : w.cell? p = some v) (hne : p.block ≠ g) : w'.cell? p = some v :=
  (World.cell?_of_block (w := w) (h.above p.block (World.block_lt_of_cell? w p hc) hne)).trans hc
theorem Fe.next {g : Nat} {a b c : World} (h : Fe g a b) (q : Fr b c) (hg : g < a.heap.size) : Fe g a c := h.trans (Fe.of q (h.more.fr q) (Nat.le_trans (Nat.le_of_lt hg) h.below.size))
/-- the globals lie below every block that a walk writes into -/
theorem Ok.set {w w' : World} (h : Ok w) {g : Nat} (hg : 9 ≤ g) (hb : Below g w w') : Ok w' where
  pow := var?_below hb gPow (by omega) h.pow
  awords := var?_below hb gWords (by omega) h.awords
theorem More.set {w w' : World} (h : More w) {g : Nat} (hg : 9 ≤ g) (hb : Below g w w') : More w' where
  maxLen := by obtain ⟨m, h⟩ := h.maxLen; exact ⟨m, (hb.cell (Nat.lt_of_lt_of_le (by decide) hg)).trans h⟩
  errS := by obtain ⟨m, h, h'⟩ := h.errS; exact ⟨m, (hb.cell (Nat.lt_of_lt_of_le (by decide) hg)).trans h, h'⟩
  errR := by obtain ⟨m, h, h'⟩ := h.errR; exact ⟨m, (hb.cell (Nat.lt_of_lt_of_le (by decide) hg)).trans h, h'⟩
theorem stored {w : World} {g : Nat} {cs : Array Value} {t : TypeId} (h : Ok w) (hm : More w) (hg : 9 ≤ g) (H : w.heap[g]? = some (.cells cs t (0, 0))) (j : Nat) (v : Value) (hj : j < cs.size) :
    ∃ w1, w.setCell ⟨g, j, none⟩ v = w1 ∧ w1.heap[g]? = some (.cells (cs.setIfInBounds j v) t (0, 0)) ∧ Fe g w w1 := by
  have hb : Below g w (w.setCell ⟨g, j, none⟩ v) := (Below.refl g w).setCell (Nat.le_refl _) v
  refine ⟨_, rfl, ?_, hb, fun k hk hne => Below.heap_setCell w _ v k hne, h.set hg hb, hm.set hg hb⟩
  have hlt := (Array.getElem?_eq_some_iff.1 H).1
  simp [World.setCell, Array.getElem?_modify, H]
theorem unfrozen {w : World} {g : Nat} {cs : Array Value} {t : TypeId} (H : w.heap[g]? = some (.cells cs t (0, 0))) (j : Nat) : w.frozen? ⟨g, j, none⟩ = false := by
  simp [World.frozen?, H]

/-- how 'next' ends -/
def endNext (B g : Nat) (n : Int) (o : Option (List (List UInt8) × List UInt8)) (e : Ending) (w' : World) : Prop := match o with
  | some p => w'.heap[g]? = some (.cells #[.string ⟨p.2.toArray⟩, .int .i64 n] 68 (0, 0)) ∧ ∃ s, e = .returned (.slice (some ⟨s, 0, none⟩) p.1.length p.1.length) ∧ s ≠ g ∧ B ≤ s ∧ ∀ i x, p.1[i]? = some x → w'.cell? ⟨s, i, none⟩ = some (.string ⟨x.toArray⟩)
  | none => e = .panicked [{ v := .iface 64 (.int .i64 n), recovered := false }]

set_option maxRecDepth 100000 in
theorem next_any (g : Nat) (k : Nat) (t : List UInt8) (n : Int) (w : World) (hw : Ok w) (hm : More w) (H : w.heap[g]? = some (.cells #[.string ⟨t.toArray⟩, .int .i64 n] 68 (0, 0))) (ht : t.length < 4294967281) (hn : 0 ≤ n ∧ n ≤ 4611686018427387904) (hg : 9 ≤ g) :
    Calls Tryd.prog 29 #[.pointer (some ⟨g, 0, none⟩), .int .i64 k] w fun e w' => Fe g w w' ∧ endNext w.heap.size g (n + 1) (nextL k t) e w' := by
  obtain ⟨c0, c1⟩ := blk2 H
  have z0 := unfrozen H 0
  have z1 := unfrozen H 1
  obtain ⟨w1, hw1, H1, f⟩ := stored hw hm hg H 1 (.int .i64 (n + 1)) (by simp)
  replace H1 : w1.heap[g]? = some (.cells #[.string ⟨t.toArray⟩, .int .i64 (n + 1)] 68 (0, 0)) := H1
  obtain ⟨d0, d1⟩ := blk2 H1
  clear c0 z0
  have hlt : g < w.heap.size := (Array.getElem?_eq_some_iff.1 H).1
  have hB1 := f.below.size
  cases hbr : brk 10 t with
  | none =>
    have hno : nextL k t = none := by unfold nextL; rw [hbr]
    rw [hno]
    go_enter Tryd.func29, Tryd.ntmps29
    go_wp2_with (first
      | (go_at_call 39; refine (cut_no t _ f.ok f.more ht hbr).mono ?_; rintro e wq ⟨rfl, q⟩; replace H1 := q.heap H1; replace f := f.next q hlt; obtain ⟨d0, d1⟩ := blk2 H1)
      | (go_at_call 40; refine (split_any t _ f.ok f.more ht).mono ?_; rintro e wq2 ⟨q2, s, rfl, hsg, hcs⟩; replace H1 := q2.heap H1; replace f := f.next q2 hlt; obtain ⟨d0, d1⟩ := blk2 H1))
    exact ⟨rfl, f, rfl⟩
  | some p =>
    obtain ⟨a, b⟩ := p
    have hal : a.length < 4294967281 := by obtain ⟨e, _⟩ := brk_some hbr; subst e; simp at ht; omega
    go_enter Tryd.func29, Tryd.ntmps29
    go_wp2_with (first
      | (go_at_call 39; refine (cut_yes t a b _ f.ok f.more ht hbr).mono ?_; rintro e wq ⟨rfl, q⟩; replace H1 := q.heap H1; replace f := f.next q hlt; obtain ⟨d0, d1⟩ := blk2 H1)
      | (go_at_call 40; refine (split_any a _ f.ok f.more hal).mono ?_; rintro e wq2 ⟨q2, s, rfl, hsg, hcs⟩; replace H1 := q2.heap H1; replace f := f.next q2 hlt; obtain ⟨d0, d1⟩ := blk2 H1; have z2 := unfrozen H1 0; obtain ⟨w3, hw3, H3, f3⟩ := stored f.ok f.more hg H1 0 (.string ⟨b.toArray⟩) (by simp)))
    · have hne : ¬ (spl a).length = k := by have := ‹(((spl a).length : Int) != (k : Int)) = true›; simp at this; omega
      have hno : nextL k t = none := by unfold nextL; rw [hbr]; exact if_neg hne
      rw [hno]
      exact ⟨rfl, f, rfl⟩
    · have hne : (spl a).length = k := by have := ‹(((spl a).length : Int) != (k : Int)) = false›; simp at this; omega
      have hyes : nextL k t = some (spl a, b) := by unfold nextL; rw [hbr]; exact if_pos hne
      rw [hyes]
      have h4 : g < wq.heap.size := World.block_lt_of_cell? _ ⟨g, 0, none⟩ ‹wq.cell? ⟨g, 0, none⟩ = _›
      have hs : s ≠ g := by omega
      go_ret
      exact ⟨f.trans f3, H3, s, rfl, hs, Nat.le_trans (Nat.le_trans hB1 q.below.size) hsg, fun i x hx => f3.cell (hcs i x hx) hs⟩

/-- how the reader of a number's line ends -/
def endCnt (g : Nat) (n : Int) (o : Option (Int × List UInt8)) (e : Ending) (w' : World) : Prop := match o with
  | some p => w'.heap[g]? = some (.cells #[.string ⟨p.2.toArray⟩, .int .i64 n] 68 (0, 0)) ∧ e = .returned (.int .i64 p.1)
  | none => e = .panicked [{ v := .iface 64 (.int .i64 n), recovered := false }]

set_option maxRecDepth 100000 in
theorem count_any (g : Nat) (word t : List UInt8) (n : Int) (w : World) (hw : Ok w) (hm : More w) (H : w.heap[g]? = some (.cells #[.string ⟨t.toArray⟩, .int .i64 n] 68 (0, 0))) (ht : t.length < 4294967281) (hn : 0 ≤ n ∧ n ≤ 4611686018427387904) (hg : 9 ≤ g) :
    Calls Tryd.prog 31 #[.pointer (some ⟨g, 0, none⟩), .string ⟨word.toArray⟩] w fun e w' => Fe g w w' ∧ endCnt g (n + 1) (cntL word t) e w' := by
  have hlt : g < w.heap.size := (Array.getElem?_eq_some_iff.1 H).1
  cases hnx : nextL 2 t with
  | none =>
    have hno : cntL word t = none := by unfold cntL; rw [hnx]
    rw [hno]
    go_enter Tryd.func31, Tryd.ntmps31
    go_wp2_with (first
      | (go_at_call 29; refine (next_any g 2 t n w hw hm H ht hn hg).mono ?_; rintro e wq ⟨f, he⟩; rw [hnx] at he; unfold endNext at he; dsimp only at he; subst he))
    exact ⟨rfl, f, rfl⟩
  | some p =>
    obtain ⟨ws, b⟩ := p
    obtain ⟨hjoin, hlen⟩ := next_some hnx
    match ws, hlen with
    | [x, y], _ =>
    have hy : y.length < 4294967281 := by subst hjoin; simp [joinSp] at ht; omega
    by_cases hx : x = word
    · have hc : cntL word t = (canI y).map (fun n => (n, b)) := by unfold cntL; rw [hnx]; exact if_pos hx
      rw [hc]
      subst hx
      cases hcy : canI y with
      | none =>
        go_enter Tryd.func31, Tryd.ntmps31
        go_wp2_with (first
          | (go_at_call 29; refine (next_any g 2 t n w hw hm H ht hn hg).mono ?_; rintro e wq ⟨f, he⟩; rw [hnx] at he; obtain ⟨H1, s, rfl, hs, _, hcs⟩ := he; dsimp only [List.length_cons, List.length_nil]; have e0 := hcs 0 x rfl; have e1 := hcs 1 y rfl)
          | (go_at_call 33; refine (number_any g y _ (n + 1) _ f.ok f.more H1 hy).mono ?_; rintro e wr ⟨q, he⟩; rw [hcy] at he; unfold endI at he; dsimp only at he; subst he))
        exact ⟨rfl, f.next q hlt, rfl⟩
      | some v =>
        go_enter Tryd.func31, Tryd.ntmps31
        go_wp2_with (first
          | (go_at_call 29; refine (next_any g 2 t n w hw hm H ht hn hg).mono ?_; rintro e wq ⟨f, he⟩; rw [hnx] at he; obtain ⟨H1, s, rfl, hs, _, hcs⟩ := he; dsimp only [List.length_cons, List.length_nil]; have e0 := hcs 0 x rfl; have e1 := hcs 1 y rfl)
          | (go_at_call 33; refine (number_any g y _ (n + 1) _ f.ok f.more H1 hy).mono ?_; rintro e wr ⟨q, he⟩; rw [hcy] at he; unfold endI at he; dsimp only at he; subst he))
        go_ret
        exact ⟨f.next q hlt, q.heap H1, rfl⟩
    · have hc : cntL word t = none := by unfold cntL; rw [hnx]; exact if_neg hx
      have hx' : (x == word) = false := by simpa using hx
      rw [hc]
      go_enter Tryd.func31, Tryd.ntmps31
      go_wp2_with (first
        | (go_at_call 29; refine (next_any g 2 t n w hw hm H ht hn hg).mono ?_; rintro e wq ⟨f, he⟩; rw [hnx] at he; obtain ⟨H1, s, rfl, hs, _, hcs⟩ := he; dsimp only [List.length_cons, List.length_nil]; have e0 := hcs 0 x rfl; obtain ⟨d0, d1⟩ := blk2 H1))
      exact ⟨rfl, f, rfl⟩

/-- the words, by value, at a place -/
theorem idxWords (k : Nat) (hk : k < 10) (w : World) : (Instr.index 73 (.agg auditWords) (.int .i64 k)).run Tryd.prog w = .ok (.string ⟨(wordsL.getD k []).toArray⟩) w := by
  have hk' : k = 0 ∨ k = 1 ∨ k = 2 ∨ k = 3 ∨ k = 4 ∨ k = 5 ∨ k = 6 ∨ k = 7 ∨ k = 8 ∨ k = 9 := by omega
  rcases hk' with rfl | rfl | rfl | rfl | rfl | rfl | rfl | rfl | rfl | rfl <;> (have e1 : Tryd.prog.cellsOf 9 = 1 := by kernel_rfl) <;> simp [Instr.index, run_underlying Tryd.underlying73, asIntOf, go_sem, auditWords, wordsL, e1]

set_option maxRecDepth 100000 in
theorem kind_any (g : Nat) (x : List UInt8) (t : Value) (n : Int) (w : World) (hw : Ok w) (hm : More w) (H : w.heap[g]? = some (.cells #[t, .int .i64 n] 68 (0, 0))) (hx : x.length < 4294967281) :
    Calls Tryd.prog 32 #[.pointer (some ⟨g, 0, none⟩), .string ⟨x.toArray⟩] w fun e w' => Fr w w' ∧ endI n (kindL x) e := by
  have hc : ∀ i v, auditWords[i]? = some v → w.cell? ⟨0, i, none⟩ = some v := fun i v hv => by rw [World.var?_cell gWords hw.awords i]; exact hv
  have c0 := hc 0 _ rfl
  have c1 := hc 1 _ rfl
  have c2 := hc 2 _ rfl
  have c3 := hc 3 _ rfl
  have c4 := hc 4 _ rfl
  have c5 := hc 5 _ rfl
  have c6 := hc 6 _ rfl
  have c7 := hc 7 _ rfl
  have c8 := hc 8 _ rfl
  have c9 := hc 9 _ rfl
  clear hc
  simp only [auditWords, List.getElem_toArray, List.getElem_cons_succ, List.getElem_cons_zero] at c0 c1 c2 c3 c4 c5 c6 c7 c8 c9
  go_enter Tryd.func32, Tryd.ntmps32
  go_wp2
  clear c0 c1 c2 c3 c4 c5 c6 c7 c8 c9
  go_loop [9] (fun i => ∃ k : Nat, k ≤ 10 ∧ i = .int .i64 k ∧ ∀ m, 1 ≤ m → m < k → wordsL.getD m [] ≠ x) (fun i => 10 - (intOf i).toNat)
  case atStart => exact ⟨0, by omega, rfl, by omega⟩
  case round =>
    obtain ⟨k, hk, rfl, hno⟩ := hrel
    have hix := idxWords
    unfold auditWords at hix
    by_cases hlt : k < 10
    · have h10 : (k : Int) < 10 := by omega
      replace hix := hix k hlt
      go_wp2
      case roundEnd =>
        refine ⟨⟨k + 1, by omega, by go_num, fun m h1 h2 => ?_⟩, by simp [intOf]; omega⟩
        by_cases hm : m = k
        · subst hm
          have := ‹(wordsL[m]?.getD [] == x) = false›
          simpa using this
        · exact hno m h1 (by omega)
      case roundEnd =>
        exact ⟨⟨k + 1, by omega, by go_num, fun m h1 h2 => by omega⟩, by simp [intOf]; omega⟩
      go_ret
      have hx' : wordsL.getD k [] = x := by
        have := ‹(wordsL[k]?.getD [] == x) = true›
        simpa using this
      have hkx : kindL x = some (k : Int) := by
        rw [kind_iff, nameL_in (k : Int) (by omega)]
        exact ⟨by simpa using hx'.symm, by constructor <;> omega⟩
      exact ⟨Fr.refl hw, by rw [hkx]; rfl⟩
    · obtain rfl : k = 10 := by omega
      have hkx : kindL x = match canI x with | some k => if nameL k = x then some k else none | none => none := by
        unfold kindL
        have : kindFrom x 9 1 = none := by
          cases hf : kindFrom x 9 1 with
          | none => rfl
          | some m =>
            obtain ⟨h1, h2, h3⟩ := kindFrom_some hf
            exact absurd h3 (hno m h1 (by omega))
        rw [this]
        rfl
      clear hix hno
      cases hcx : canI x with
      | none =>
        rw [hcx] at hkx
        replace hkx : kindL x = none := hkx
        replace hkx := Lib.hid hkx
        go_wp2_with (first
          | (go_at_call 33; refine (number_any g x _ n _ hw hm H hx).mono ?_; rintro e wr ⟨q, he⟩; rw [hcx] at he; unfold endI at he; dsimp only at he; subst he))
        exact ⟨rfl, q, by rw [hkx.out]; rfl⟩
      | some v =>
        rw [hcx] at hkx
        replace hkx : kindL x = if nameL v = x then some v else none := hkx
        have hv := (canI_some.1 hcx).2
        by_cases hnv : nameL v = x
        · have hnv' : (nameL v == x) = true := by simpa using hnv
          rw [if_pos hnv] at hkx
          replace hkx := Lib.hid hkx
          go_wp2_with (first
            | (go_at_call 33; refine (number_any g x _ n _ hw hm H hx).mono ?_; rintro e wr ⟨q, he⟩; rw [hcx] at he; unfold endI at he; dsimp only at he; subst he)
            | (go_at_call 19; refine (name_any v hv _ q.ok).mono ?_; rintro e ws ⟨rfl, q2⟩; replace q := q.trans q2))
          go_ret
          exact ⟨q, by rw [hkx.out]; rfl⟩
        · have hnv' : (nameL v == x) = false := by simpa using hnv
          rw [if_neg hnv] at hkx
          replace hkx := Lib.hid hkx
          go_wp2_with (first
            | (go_at_call 33; refine (number_any g x _ n _ hw hm H hx).mono ?_; rintro e wr ⟨q, he⟩; rw [hcx] at he; unfold endI at he; dsimp only at he; subst he)
            | (go_at_call 19; refine (name_any v hv _ q.ok).mono ?_; rintro e ws ⟨rfl, q2⟩; replace q := q.trans q2; have H5 := q.heap H; obtain ⟨d0, d1⟩ := blk2 H5))
          exact ⟨rfl, q, by rw [hkx.out]; rfl⟩
end Go.Proofs.YtioapjnaopnhaaaDoor
