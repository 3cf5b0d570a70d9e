/- The program's Show of a report (package audit): the same text as the document's, for every report whose findings are at most 2^40. -/
import Derived.Test.YtioapjnaopnhaaaDoorShowRef2
set_option linter.unusedSimpArgs false
set_option linter.unusedVariables false
namespace Go.Proofs.YtioapjnaopnhaaaDoor
open Go.RowKit Go.Proofs

def nameL (k : Int) : List UInt8 := if (wordL k).isEmpty then Lib.itoa k else wordL k

theorem name_out (k : Int) (h : k < 1 ∨ 9 < k) : nameL k = Lib.itoa k := by
  have h0 : wordL k = [] := by unfold wordL; rw [if_neg (by omega)]
  unfold nameL; rw [h0]; rfl

set_option maxHeartbeats 1600000 in
set_option maxRecDepth 100000 in
theorem name_any (k : Int) (hk : I64 k) (w : World) (hw : Ok w) :
    Calls Tryd.prog 19 #[.int .i64 k] w fun e w' => e = .returned (.string ⟨(nameL k).toArray⟩) ∧ Fr w w' := by
  by_cases h1 : 0 < k
  · by_cases h9 : k < 10
    · have h : k = 1 ∨ k = 2 ∨ k = 3 ∨ k = 4 ∨ k = 5 ∨ k = 6 ∨ k = 7 ∨ k = 8 ∨ k = 9 := by omega
      have hc : ∀ i v, auditWords[i]? = some v → w.cell? ⟨0, i, none⟩ = some v := fun i v hv => by rw [World.var?_cell gWords hw.awords i]; exact hv
      have c1 := hc 1 _ rfl
      have c2 := hc 2 _ rfl
      have c3 := hc 3 _ rfl
      have c4 := hc 4 _ rfl
      have c5 := hc 5 _ rfl
      have c6 := hc 6 _ rfl
      have c7 := hc 7 _ rfl
      have c8 := hc 8 _ rfl
      have c9 := hc 9 _ rfl
      simp only [auditWords] at c1 c2 c3 c4 c5 c6 c7 c8 c9
      clear h1 h9 hk hc
      rcases h with rfl | rfl | rfl | rfl | rfl | rfl | rfl | rfl | rfl
      all_goals
        go_enter Tryd.func19, Tryd.ntmps19
        go_wp2
        go_ret
        exact ⟨rfl, Fr.refl hw⟩
    · have hn := name_out k (by omega)
      rw [hn]; clear hn
      go_enter Tryd.func19, Tryd.ntmps19
      go_wp2_with (go_at_call 18; refine (Itoa _ hk _ hw).mono ?_; rintro e wq ⟨rfl, q⟩; have f1 := q; clear q)
      go_ret
      exact ⟨rfl, f1⟩
  · have hn := name_out k (by omega)
    rw [hn]; clear hn
    go_enter Tryd.func19, Tryd.ntmps19
    go_wp2_with (go_at_call 18; refine (Itoa _ hk _ hw).mono ?_; rintro e wq ⟨rfl, q⟩; have f1 := q; clear q)
    go_ret
    exact ⟨rfl, f1⟩

/-- block b is a strings.Builder of the call's own that holds l -/
def Bld (w0 : World) (b : Nat) (l : List UInt8) (w : World) : Prop := Lib.IsBuilderF 45 5 w0.heap.size b (Lib.byteCells l) w

theorem Bld.lt {w0 w : World} {b : Nat} {l : List UInt8} (h : Bld w0 b l w) : b < w.heap.size := by
  rcases h with h | h
  · exact h.lt
  · exact h.lt
theorem Bld.fr {w0 w w' : World} {b : Nat} {l : List UInt8} (h : Bld w0 b l w) (q : Fr w w') : Bld w0 b l w' := by
  have key : ∀ p, Lib.BuilderAtF 45 5 w0.heap.size b p (Lib.byteCells l) w → Lib.BuilderAtF 45 5 w0.heap.size b p (Lib.byteCells l) w' := by
    rintro p ⟨hB, v, hb, hown, hne⟩
    have hg : w.grownBy w' none := ⟨q.below.os, q.below.tape, q.below.output, q.below.size, fun k hk _ => q.below.block k hk⟩
    exact ⟨hB, v, q.heap hb, hown.kept hg (by cases hv : v.ownBlock <;> simp), hne⟩
  exact h.elim (fun x => .inl (key _ x)) (fun x => .inr (key _ x))

/-- what the writing of the builder leaves of the call's own other blocks -/
def Kept (b : Nat) (w w' : World) : Prop := Lib.OthersKept 5 (some b) w w'
theorem Kept.blk {b g : Nat} {w w' : World} {cs : Array Value} {t : TypeId} {fz : Nat × Nat} (h : Kept b w w') (hg : w.heap[g]? = some (.cells cs t fz)) (hne : g ≠ b) (ht : t ≠ 5) : w'.heap[g]? = some (.cells cs t fz) :=
  h g _ hg (by simpa using hne) (fun c fz' e => by injection e with _ e2; exact ht e2)
theorem writeString (w0 w : World) (hw0 : Ok w0) (f : Fr w0 w) (b : Nat) (l s : List UInt8) (h : Bld w0 b l w) (hlen : l.length + s.length ≤ 140737488355328) :
    Calls Tryd.prog 15 #[.pointer (some ⟨b, 0, none⟩), .string ⟨s.toArray⟩] w fun e w' => e = .returned (.tuple #[.int .i64 s.length, .nilIface]) ∧ Fr w0 w' ∧ Bld w0 b (l ++ s) w' ∧ Kept b w w' := by
  refine (Tryd.Builder_WriteString_k w0.heap.size b (Lib.byteCells l) ⟨s.toArray⟩ w h (by simpa [Lib.byteCells, bs_size] using hlen) f.size).mono ?_
  rintro e w' ⟨rfl, h1, h2, h3⟩
  refine ⟨by rw [bs_size], Fr.of hw0 (f.below.trans h2), .inr ?_, h3⟩
  rw [Lib.byteCells_append]
  exact h1

theorem join2 (a b sep : List UInt8) : Lib.join [a, b] sep = a ++ sep ++ b := by simp [Lib.join]
theorem join4 (a b c d sep : List UInt8) : Lib.join [a, b, c, d] sep = a ++ sep ++ b ++ sep ++ c ++ sep ++ d := by simp [Lib.join]

set_option maxRecDepth 100000 in
theorem row_gen (w0 w : World) (hw0 : Ok w0) (f : Fr w0 w) (b : Nat) (l : List UInt8) (h : Bld w0 b l w) (g : Nat) (xs : List ByteArray) (j : List UInt8) (hj : Lib.join (xs.map (·.data.toList)) [32] = j)
    (hcells : ∀ (i : Nat) x, xs[i]? = some x → w.cell? ⟨g, i, none⟩ = some (.string x)) (hg : g < w.heap.size) (hn : xs.length ≤ 4) (hlen : l.length + j.length + 1 ≤ 1000000000000) :
    Calls Tryd.prog 14 #[.slice (some ⟨g, 0, none⟩) xs.length xs.length, .pointer (some ⟨b, 0, none⟩)] w fun e w' => e = .returned (.tuple #[]) ∧ Fr w0 w' ∧ Bld w0 b (l ++ (j ++ [10])) w' ∧ Kept b w w' := by
  have hjoin := Tryd.strings_Join g 0 xs.length xs ⟨#[32]⟩ w (fun i x hx => by rw [Nat.zero_add]; exact hcells i x hx) hg (by omega) (Nat.le_refl _) (by show (Lib.join (xs.map (·.data.toList)) [32]).length ≤ _; rw [hj]; omega)
  have hjoin' : Calls Tryd.prog 16 #[.slice (some ⟨g, 0, none⟩) xs.length xs.length, .string ⟨#[32]⟩] w fun e w' => e = .returned (.string ⟨j.toArray⟩) ∧ Fr w w' := by
    refine hjoin.mono ?_
    rintro e w' ⟨rfl, hb⟩
    exact ⟨by rw [← hj], Fr.of f.ok hb⟩
  have HJ := Lib.hid hjoin'
  clear hjoin hjoin' hcells hj
  have n1 : ¬ 9223372036854775807 < j.length + 1 := by omega
  go_enter Tryd.func14, Tryd.ntmps14
  have hws : ∀ W, Fr w W → Calls Tryd.prog 15 #[.pointer (some ⟨b, 0, none⟩), .string ⟨(j ++ [10]).toArray⟩] W fun e w' => e = .returned (.tuple #[.int .i64 (j ++ [10]).length, .nilIface]) ∧ Fr w0 w' ∧ Bld w0 b (l ++ (j ++ [10])) w' ∧ Kept b W w' := fun W q => writeString w0 W hw0 (f.trans q) b l (j ++ [10]) (h.fr q) (by simp; omega)
  have HW := Lib.hid hws
  clear hws
  go_wp2_with (first
    | (go_at_call 16; refine HJ.out.mono ?_; rintro e wq ⟨rfl, q⟩)
    | (go_at_call 15; rw [bs_app]; refine (HW.out _ q).mono ?_; rintro e wr ⟨rfl, k1, k2, k3⟩))
  go_end0
  exact ⟨rfl, k1, k2, fun i o hi hb ho => k3 i o (q.heap hi) hb ho⟩

theorem row_two (w0 w : World) (hw0 : Ok w0) (f : Fr w0 w) (b : Nat) (l : List UInt8) (h : Bld w0 b l w) (s t : List UInt8) (hlen : l.length + s.length + t.length + 2 ≤ 1000000000000) :
    Calls Tryd.prog 14 #[.slice (some ⟨w.heap.size, 0, none⟩) 2 2, .pointer (some ⟨b, 0, none⟩)] (w.alloc (.cells #[.string ⟨s.toArray⟩, .string ⟨t.toArray⟩] 9)) fun e w' => e = .returned (.tuple #[]) ∧ Fr w0 w' ∧ Bld w0 b (l ++ (s ++ [32] ++ t ++ [10])) w' ∧ Kept b w w' := by
  have q := (Fr.refl f.ok).alloc (.cells #[.string ⟨s.toArray⟩, .string ⟨t.toArray⟩] 9)
  refine (row_gen w0 _ hw0 (f.trans q) b l (h.fr q) w.heap.size [⟨s.toArray⟩, ⟨t.toArray⟩] (s ++ [32] ++ t) (by simp [join2]) (fun i x hx => ?_) (by simp) (by simp) (by simp; omega)).mono ?_
  · refine blk_cell (blk_alloc _) ?_
    rcases i with _ | _ | i <;> simp at hx ⊢ <;> exact hx
  · rintro e w' ⟨rfl, k1, k2, k3⟩
    exact ⟨rfl, k1, k2, fun i o hi hb ho => k3 i o (q.heap hi) hb ho⟩

theorem row_four (w0 w : World) (hw0 : Ok w0) (f : Fr w0 w) (b : Nat) (l : List UInt8) (h : Bld w0 b l w) (s t u v : List UInt8) (hlen : l.length + s.length + t.length + u.length + v.length + 4 ≤ 1000000000000) :
    Calls Tryd.prog 14 #[.slice (some ⟨w.heap.size, 0, none⟩) 4 4, .pointer (some ⟨b, 0, none⟩)] (w.alloc (.cells #[.string ⟨s.toArray⟩, .string ⟨t.toArray⟩, .string ⟨u.toArray⟩, .string ⟨v.toArray⟩] 9)) fun e w' => e = .returned (.tuple #[]) ∧ Fr w0 w' ∧ Bld w0 b (l ++ (s ++ [32] ++ t ++ [32] ++ u ++ [32] ++ v ++ [10])) w' ∧ Kept b w w' := by
  have q := (Fr.refl f.ok).alloc (.cells #[.string ⟨s.toArray⟩, .string ⟨t.toArray⟩, .string ⟨u.toArray⟩, .string ⟨v.toArray⟩] 9)
  refine (row_gen w0 _ hw0 (f.trans q) b l (h.fr q) w.heap.size [⟨s.toArray⟩, ⟨t.toArray⟩, ⟨u.toArray⟩, ⟨v.toArray⟩] (s ++ [32] ++ t ++ [32] ++ u ++ [32] ++ v) (by simp [join4]) (fun i x hx => ?_) (by simp) (by simp) (by simp; omega)).mono ?_
  · refine blk_cell (blk_alloc _) ?_
    rcases i with _ | _ | _ | _ | i <;> simp at hx ⊢ <;> exact hx
  · rintro e w' ⟨rfl, k1, k2, k3⟩
    exact ⟨rfl, k1, k2, fun i o hi hb ho => k3 i o (q.heap hi) hb ho⟩

theorem bld_new {w w1 : World} {b : Nat} (hb : w.heap.size ≤ b) (h : w1.heap[b]? = some (.cells #[.pointer none, .slice none 0 0] 45 (0, 0))) : Bld w b [] w1 :=
  .inl ⟨hb, .slice none 0 0, h, World.ownsRowF_nil _ _ _ _, by simp [Value.ownBlock]⟩

theorem nameL_len (k : Int) (h : I64 k) : (nameL k).length ≤ 21 := by
  have h1 := itoa_len k h
  have h2 := wordL_len k
  unfold nameL
  split <;> omega
theorem rowL_eq (f : Fnd) : rowL f = nameL f.k ++ [32] ++ Lib.itoa f.b ++ [32] ++ Lib.itoa f.p ++ [32] ++ Lib.itoa f.o ++ [10] := rfl

set_option maxHeartbeats 3200000 in
set_option maxRecDepth 100000 in
theorem progShow (r : Rep) (a : Option Addr) (c : Nat) (w : World) (hw : Ok w) (hr : r.wf) (hF : FRow w a r.fs) (hn : r.fs.length ≤ 1099511627) :
    Calls Tryd.prog 6 #[.agg #[.int .u64 r.floor, .int .i64 r.counted, .int .i64 r.live, .int .i64 r.used, .int .i64 r.bad, .bool r.saved, .slice a r.fs.length c]] w fun e w' => e = .returned (.string ⟨(showL r).toArray⟩) ∧ Fr w w' := by
  have hmf : ∀ (fn : Fn) (first cap : Array Value) (w : World), (Instr.makeFunc fn first cap).run Tryd.prog w = .ok (.func fn first cap) w := fun _ _ _ _ => rfl
  obtain ⟨w1, g, hg, hw1, f, hz1, H⟩ := boxedH hw #[.int .u64 r.floor, .int .i64 r.counted, .int .i64 r.live, .int .i64 r.used, .int .i64 r.bad, .bool r.saved, .slice a r.fs.length c] 25
  obtain ⟨w2, b, hg2, hw2, f2, hz2, hb0⟩ := boxedH f.ok #[.pointer none, .slice none 0 0] 45
  have hbg : b = g + 1 := by omega
  subst hbg
  have hB := bld_new (w := w) (by omega) hb0
  replace H := f2.heap H
  replace f := f.trans f2
  clear f2 hb0
  obtain ⟨c0, c1, c2, c3, c4, c5, c6⟩ := blk7 H
  obtain ⟨h0, h1, h2, h3, h4, h5⟩ := hr
  have l0 := utoa_len _ h0
  have l1 := itoa_len _ h1
  have l2 := itoa_len _ h2
  have l3 := itoa_len _ h3
  have l4 := itoa_len _ h4
  generalize hsv : r.saved = sv at *
  cases sv
  all_goals
    go_enter Tryd.func6, Tryd.ntmps6
    go_wp2_with (first
      | (go_at_call 17; refine (FormatUint _ (by assumption) _ f.ok).mono ?_; rintro e wq ⟨rfl, q⟩; replace H := q.heap H; replace hB := hB.fr q; replace f := f.trans q; clear q c0 c1 c2 c3 c4 c5 c6; obtain ⟨c0, c1, c2, c3, c4, c5, c6⟩ := blk7 H)
      | (go_at_call 18; refine (Itoa _ (by assumption) _ f.ok).mono ?_; rintro e wq ⟨rfl, q⟩; replace H := q.heap H; replace hB := hB.fr q; replace f := f.trans q; clear q c0 c1 c2 c3 c4 c5 c6; obtain ⟨c0, c1, c2, c3, c4, c5, c6⟩ := blk7 H)
      | (go_at_call 14; refine (row_two w _ hw f (g + 1) _ hB _ _ (by simp; omega)).mono ?_; rintro e wr ⟨rfl, k1, k2, k3⟩; replace f := k1; replace hB := k2; replace H := k3.blk H (by omega) (by decide); clear k1 k2 k3 c0 c1 c2 c3 c4 c5 c6; obtain ⟨c0, c1, c2, c3, c4, c5, c6⟩ := blk7 H))
    replace hB : Bld w (g + 1) (rowsTo r 0) wr := by simpa [rowsTo, headsL, yesL, hsv] using hB
    clear c0 c1 c2 c3 c4 c5 c6 H
    go_loopw [49] (fun i W => ∃ k : Nat, k ≤ r.fs.length ∧ i = .int .i64 k ∧ Fr w W ∧ Bld w (g + 1) (rowsTo r k) W) (fun i _ => r.fs.length - (intOf i).toNat)
    case atStart => exact ⟨0, by omega, rfl, f, hB⟩
    case round =>
      clear f hB
      obtain ⟨k, hk, rfl, f, hB⟩ := hrel
      by_cases hlt : k < r.fs.length
      · obtain ⟨bb, o, rfl, hbb, hcells⟩ : ∃ b o, a = some ⟨b, o, none⟩ ∧ _ := (hF.fr f).resolve_left (by intro e; rw [e] at hlt; simp at hlt)
        obtain ⟨d0, d1, d2, d3⟩ := hcells k r.fs[k] (List.getElem?_eq_getElem _)
        have hs := Lib.hid (rowsTo_succ r k hlt)
        have hle := rowsTo_le r ⟨h0, h1, h2, h3, h4, h5⟩ k
        have hwf := h5 r.fs[k] (List.getElem_mem hlt)
        obtain ⟨m0, m1, m2, m3⟩ := hwf
        have t0 := nameL_len _ m0
        have t1 := itoa_len _ m1
        have t2 := itoa_len _ m2
        have t3 := itoa_len _ m3
        obtain ⟨w3, g3, hg3, hw3, f3, hz3, H3⟩ := boxedH f.ok #[.int .i64 r.fs[k].k, .int .i64 r.fs[k].b, .int .i64 r.fs[k].p, .int .i64 r.fs[k].o] 29
        obtain ⟨c0, c1, c2, c3⟩ := blk4 H3
        replace hB := hB.fr f3
        replace f := f.trans f3
        go_wp2_with fail
        have r_c0 := cell_regrown c0
        have r_c1 := cell_regrown c1
        have r_c2 := cell_regrown c2
        have r_c3 := cell_regrown c3
        refine Reg.wp_region_tail_below 1 15 (by kernel_rfl) (by kernel_rfl) (fun _ _ d _ _ h => by cases d <;> exact h) ?_
        simp only [List.take_succ_cons, List.take_zero, List.drop_succ_cons, List.drop_zero, Reg.earlyA, Act.eval, Act.put, List.getElem?_toArray, List.getElem?_cons_succ, List.getElem?_cons_zero, Option.getD_some, List.setIfInBounds_toArray, List.set_cons_succ, List.set_cons_zero]
        repeat (go_big_quiet_step (first | (go_at_call 19; exact qfr (name_any _ (by assumption) _ (okR f.ok _ _))) | (go_at_call 18; exact qfr (Itoa _ (by assumption) _ (okR f.ok _ _)))))
        refine wpQuiet_nil ?_
        intro wq hwq
        have q := Fr.regrown f.ok hwq
        clear hwq r_c0 r_c1 r_c2 r_c3
        replace c0 := q.cell c0
        replace c1 := q.cell c1
        replace c2 := q.cell c2
        replace c3 := q.cell c3
        replace hB := hB.fr q
        replace f := f.trans q
        clear q
        go_wp2_with (go_at_call 14; refine (row_four w _ hw f (g + 1) _ hB _ _ _ _ (by omega)).mono ?_; rintro e wr ⟨rfl, k1, k2, k3⟩; clear k3)
        rw [← rowL_eq, ← hs.out] at k2
        go_roundw
        case rel => exact ⟨k + 1, by omega, by go_num, k1, k2⟩
        case measure => simp [intOf]; omega
      · obtain rfl : k = r.fs.length := by omega
        rw [rowsTo_all] at hB
        go_wp2_with (go_at_call 20; refine (Tryd.Builder_String_any_k w.heap.size (g + 1) (showL r) _ hB f.size).mono ?_; rintro e wr ⟨rfl, _, k2, _⟩)
        go_ret
        exact ⟨rfl, Fr.of hw (f.below.trans k2)⟩
end Go.Proofs.YtioapjnaopnhaaaDoor
