/- point.Pack by its contract. -/
import Derived.Test.YtefkklgelmbaiaaDoorMNode
import Derived.Maps.AppendAt
/- The program's writer (point): append of zeros, num, yes, place, object. -/
set_option linter.unusedSimpArgs false
set_option linter.unusedVariables false
namespace Go.Proofs.YtefkklgelmbaiaaDoor
open Go.RowKit Go.Proofs

theorem zeroCells_one (z : Value) (hz : z.cells = #[z]) (n : Nat) : (Builtin.zeroCells z.cells n).toList = List.replicate n z := by
  rw [hz]
  unfold Builtin.zeroCells
  apply List.ext_getElem?
  intro j
  by_cases hj : j < n
  · simp [hj, Nat.mod_one]
  · simp [hj]
theorem own_lit (w : World) (B : Nat) (xs : List Int) (cap : Nat) (hB : B ≤ w.heap.size) (hc : xs.length ≤ cap) (hm : cap ≤ maxLen) :
    OwnB (w.alloc (.cells ((xs.map (Value.int .u8)).toArray ++ Builtin.zeroCells (Value.int .u8 0).cells (cap - xs.length)) 5)) B (.slice (some ⟨w.heap.size, 0, none⟩) xs.length cap) xs := by
  refine ⟨by simp, .inr ⟨w.heap.size, cap, _, rfl, hB, heap_alloc_new w _, hc, hm, ?_, ?_⟩⟩
  · have := congrArg List.length (zeroCells_one (Value.int .u8 0) rfl (cap - xs.length))
    rw [Array.length_toList, List.length_replicate] at this
    simp [this]
    omega
  · simp
theorem append_zeros (ty : TypeId) (B : Nat) (v : Value) (xs : List Int) (m : Nat) (h1 : 1 ≤ m) (h8 : m ≤ 8) (w : World) (ho : OwnB w B v xs) (hl : xs.length ≤ 1099511627776) (hB : B ≤ w.heap.size) :
    ∃ v' w', (Builtin.append_ #[27, 3] ty #[v, .int .i64 (m : Int)]).run Tryd.prog w = .ok v' w' ∧ OwnB w' B v' (xs ++ List.replicate m 0) ∧ w.grownBy w' v.ownBlock ∧ (v'.ownBlock = v.ownBlock ∨ v'.ownBlock = some w.heap.size) := by
  obtain ⟨i, hi, hz, hs, hb⟩ := info_byte
  have ht := Tryd.underlying27
  have hu := Tryd.underlying3
  have hw : IntKind.i64.wrap (m : Int) = (m : Int) := IntWalk.i64_in _ ⟨by omega, by omega⟩
  have hn0 : ¬ ((m : Int) < 0) := by omega
  have hm0 : m ≠ 0 := by omega
  have hb2 : ¬ (281474976710656 < (m : Int)) := by omega
  have hmp : ¬ ((m : Int) ≤ 0) := by omega
  have hmx : ¬ (9223372036854775807 < max (m : Int) 0) := by omega
  have hbig : ¬ (281474976710656 < (m : Int) * (1 : Nat)) := by omega
  have hzl : (Builtin.zeroCells (Value.int .u8 0).cells m).toList = List.replicate m (.int .u8 0) := zeroCells_one _ rfl m
  have hza : Builtin.zeroCells (Value.int .u8 0).cells m = (List.replicate m (Value.int .u8 0)).toArray := by rw [← hzl]
  obtain ⟨hlen, ho2⟩ := ho
  rcases ho2 with ⟨rfl, hx0⟩ | ⟨g, cap, cur, rfl, hbg, hg, hnc, hcm, hcs, htake⟩
  · have hx : xs = [] := List.eq_nil_of_length_eq_zero hx0
    subst hx
    have h63' : ¬ (9223372036854775807 < (m : Int)) := by omega
    have h48' : ¬ (281474976710656 < Builtin.nextslicecap m 0) := by rw [nextslicecap_zero (by omega)]; omega
    have hr : (Builtin.append_ #[27, 3] ty #[.slice none 0 0, .int .i64 (m : Int)]).run Tryd.prog w = .ok (.slice (some ⟨w.heap.size, 0, none⟩) m (grownCap w m 0 5)) (w.drew.alloc (.cells ((List.replicate m (Value.int .u8 0)).toArray ++ Builtin.zeroCells (Value.int .u8 0).cells (grownCap w m 0 5 - m)) 5)) := by
      simp [Builtin.append_, run_underlying ht, run_underlying hu, sizeOf, typeInfo, zeroValue, hi, hz, hs, hb, asInt, asIntOf, hw, hmp, hmx, hb2, hn0, hm0, hbig, h63', h48', Question.forced, run_firstCells_none, newRow, grownCap, hza]
    have hge := grownCap_ge w m 0 5
    refine ⟨_, _, hr, ?_, ⟨rfl, rfl, rfl, by simp, fun k hk _ => heap_alloc_old w.drew _ hk⟩, .inr rfl⟩
    have := own_lit w.drew B ([] ++ List.replicate m (0 : Int)) (grownCap w m 0 5) hB (by simpa using hge) (grownCap_le_maxLen w m 0 5 (by unfold maxLen; omega))
    simp only [List.nil_append, List.length_replicate, List.map_replicate] at this
    simp only [List.nil_append]
    exact this
  · by_cases hroom : xs.length + m ≤ cap
    · have hst := run_storeCells_at Tryd.prog g xs.length 5 (List.replicate m (Value.int .u8 0)) 0 cur w hg (by simp; omega) (by intro u hu; rw [(List.mem_replicate.1 hu).2]; rfl)
      simp only [Nat.add_zero, List.length_replicate] at hst
      have hr : (Builtin.append_ #[27, 3] ty #[.slice (some ⟨g, 0, none⟩) xs.length cap, .int .i64 (m : Int)]).run Tryd.prog w = .ok (.slice (some ⟨g, 0, none⟩) (xs.length + m) cap) (w.setRow g (cur.toList.take xs.length ++ List.replicate m (Value.int .u8 0) ++ cur.toList.drop (xs.length + m)).toArray) := by
        simp [Builtin.append_, run_underlying ht, run_underlying hu, sizeOf, typeInfo, zeroValue, hi, hz, hs, hb, asInt, asIntOf, hw, hmp, hmx, hb2, hn0, hm0, hbig, hroom, hza, hst, Addr.add_lit]
      refine ⟨_, _, hr, ⟨by simp, .inr ⟨g, cap, _, by simp, hbg, setRow_heap w g cur _ 5 _ hg, by simpa using hroom, hcm, ?_, ?_⟩⟩, ⟨rfl, rfl, rfl, by simp, fun k _ hk => setRow_other w g k _ (fun e => hk (by simp [Value.ownBlock, e]))⟩, .inl rfl⟩
      · simp
        omega
      · rw [Nat.mul_one] at htake
        rw [htake, List.map_append, List.map_replicate]
        have hlen2 : (List.map (Value.int .u8) xs ++ List.replicate m (Value.int .u8 0)).length = xs.length + m := by simp
        simp only [List.length_append, List.length_replicate, Nat.mul_one]
        rw [← hlen2]
        exact List.take_left
    · have holds : ∀ j u, (xs.map (Value.int .u8))[j]? = some u → w.drew.cell? ((⟨g, 0, none⟩ : Addr).add j) = some u := fun j u hj => by
        have hj' : j < xs.length := by simpa using (List.getElem?_eq_some_iff.1 hj).1
        rw [Lib.add_plain, Nat.zero_add]
        show w.cell? ⟨g, j, none⟩ = some u
        rw [cell_of_row w g j cur 5 (0, 0) hg, ← hj, ← htake, List.getElem?_take, if_pos (by omega)]
        simp
      have hfo := run_firstCells_some (P := Tryd.prog) w.drew 1 xs.length ⟨g, 0, none⟩ xs.length cap (xs.map (Value.int .u8)) (by simp) holds
      have h63' : ¬ (9223372036854775807 < ((xs.length : Int) + (m : Int))) := by omega
      have h63'' : ¬ (9223372036854775807 < ((xs.length : Int) + max (m : Int) 0)) := by omega
      have hgf := growslice_fits (need := xs.length + m) (old := cap) (bytes := 1) (by omega) (by omega)
      have h48' : ¬ (281474976710656 < Builtin.nextslicecap (xs.length + m) cap) := by omega
      have hr : (Builtin.append_ #[27, 3] ty #[.slice (some ⟨g, 0, none⟩) xs.length cap, .int .i64 (m : Int)]).run Tryd.prog w = .ok (.slice (some ⟨w.heap.size, 0, none⟩) (xs.length + m) (grownCap w (xs.length + m) cap 5))
          (w.drew.alloc (.cells (((xs ++ List.replicate m 0).map (Value.int .u8)).toArray ++ Builtin.zeroCells (Value.int .u8 0).cells (grownCap w (xs.length + m) cap 5 - (xs ++ List.replicate m (0 : Int)).length)) 5)) := by
        simp [Builtin.append_, run_underlying ht, run_underlying hu, sizeOf, typeInfo, zeroValue, hi, hz, hs, hb, asInt, asIntOf, hw, hmp, hmx, hb2, hn0, hm0, hbig, hroom, hza, h63', h63'', h48', Question.forced, hfo, newRow, grownCap]
        refine congrArg (fun a => World.alloc w.drew (Obj.cells a 5)) (Array.ext' ?_)
        simp only [Array.toList_append, List.append_assoc, Array.toList_replicate]
      have hge := grownCap_ge w (xs.length + m) cap 5
      refine ⟨_, _, hr, ?_, ⟨rfl, rfl, rfl, by simp, fun k hk _ => heap_alloc_old w.drew _ hk⟩, .inr rfl⟩
      have := own_lit w.drew B (xs ++ List.replicate m (0 : Int)) (grownCap w (xs.length + m) cap 5) hB (by simpa using hge) (grownCap_le_maxLen w _ cap 5 (by unfold maxLen; omega))
      simp only [List.length_append, List.length_replicate] at this ⊢
      exact this

/-- the writer lies at gw and holds the row v of the bytes xs -/
structure Wr (w : World) (B gw : Nat) (v : Value) (xs : List Int) : Prop where
  cell : w.heap[gw]? = some (.cells #[v] 62 (0, 0))
  own : OwnB w B v xs
  base : B ≤ gw
/-- all but the writer and its row is as it was -/
structure Wk (w w' : World) (gw : Nat) (v v' : Value) : Prop where
  os : w'.os = w.os
  tape : w'.tape = w.tape
  output : w'.output = w.output
  size : w.heap.size ≤ w'.heap.size
  block : ∀ k, k < w.heap.size → k ≠ gw → some k ≠ v.ownBlock → w'.heap[k]? = w.heap[k]?
  own : v'.ownBlock = v.ownBlock ∨ ∀ k, v'.ownBlock = some k → w.heap.size ≤ k
theorem Wk.refl (w : World) (gw : Nat) (v : Value) : Wk w w gw v v := ⟨rfl, rfl, rfl, Nat.le_refl _, fun _ _ _ _ => rfl, .inl rfl⟩
theorem Wk.trans {a b c : World} {gw : Nat} {u v x : Value} (h : Wk a b gw u v) (k : Wk b c gw v x) : Wk a c gw u x := by
  refine ⟨k.os.trans h.os, k.tape.trans h.tape, k.output.trans h.output, Nat.le_trans h.size k.size, fun j hj h1 h2 => ?_, ?_⟩
  · refine (k.block j (Nat.lt_of_lt_of_le hj h.size) h1 ?_).trans (h.block j hj h1 h2)
    rcases h.own with e | e
    · rw [e]; exact h2
    · intro e2; exact absurd (e j e2.symm) (by omega)
  · rcases k.own with e | e
    · rw [e]; exact h.own
    · exact .inr fun j hj => Nat.le_trans h.size (e j hj)
theorem Wk.undrew {a b : World} {gw : Nat} {u v : Value} (h : Wk a.drew b gw u v) : Wk a b gw u v := ⟨h.os, h.tape, h.output, h.size, h.block, h.own⟩
theorem Wr.drew {w : World} {B gw : Nat} {v : Value} {xs : List Int} (h : Wr w B gw v xs) : Wr w.drew B gw v xs := ⟨h.cell, h.own, h.base⟩
theorem Wk.of_grown {a b : World} {gw : Nat} {v : Value} (h : a.grownBy b none) : Wk a b gw v v := ⟨h.os, h.tape, h.output, h.size, fun k hk _ _ => h.block k hk (by simp), .inl rfl⟩
theorem Wk.of_fr {a b : World} {gw : Nat} {v : Value} (q : Fr a b) : Wk a b gw v v := ⟨q.below.os, q.below.tape, q.below.output, q.below.size, fun k hk _ _ => q.below.block k hk, .inl rfl⟩
theorem OwnB.lt {w : World} {B : Nat} {v : Value} {xs : List Int} (h : OwnB w B v xs) {k : Nat} (hk : v.ownBlock = some k) : B ≤ k ∧ k < w.heap.size := World.ownsRow.lt h k hk
theorem Wr.fr {w w' : World} {B gw : Nat} {v v' : Value} {xs : List Int} (h : Wr w B gw v xs) {w0 : World} (f : Fr w0 w) (hw0 : Ok w0) (hB : w0.heap.size ≤ B) (q : Wk w w' gw v v') : Fr w0 w' := by
  refine Fr.of hw0 ⟨q.os.trans f.below.os, q.tape.trans f.below.tape, q.output.trans f.below.output, Nat.le_trans f.below.size q.size, fun k hk => ?_⟩
  refine (q.block k (Nat.lt_of_lt_of_le hk f.size) (by have := h.base; omega) ?_).trans (f.below.block k hk)
  intro e
  have := h.own.lt e.symm
  omega
theorem Wr.keep {w w' : World} {B gw : Nat} {v v' : Value} {xs : List Int} (h : Wr w B gw v xs) (q : Wk w w' gw v v') {k : Nat} {cs : Array Value} {t : TypeId} (hk : w.heap[k]? = some (.cells cs t (0, 0))) (h1 : 5 ≠ t) (h2 : 62 ≠ t) : w'.heap[k]? = some (.cells cs t (0, 0)) := by
  refine (q.block k (Array.getElem?_eq_some_iff.1 hk).1 ?_ (own_ne h.own hk h1)).trans hk
  rintro rfl
  have := h.cell.symm.trans hk
  injection this with this
  injection this with _ e
  exact h2 e
theorem Wr.move {w w' : World} {B gw : Nat} {v : Value} {xs : List Int} (h : Wr w B gw v xs) (q : Fr w w') : Wr w' B gw v xs := ⟨q.heap h.cell, h.own.fr q, h.base⟩

theorem wpList_append_run {P : Program} {ops : Array Oper} {rest : List Oper} {o : Oper} {a : Act} {Q : Exit → Act → World → Prop} {w : World} (hgd : o.guard = none) (s x : Operand) (t1 t2 : TypeId)
    (ho : o.op = .call { callee := .builtin .append, args := #[s, x], argTypes := #[t1, t2] }) {v u v' : Value} {w' : World} (hs : a.eval s = v) (hx : a.eval x = u)
    (hr : (Builtin.append_ #[t1, t2] o.type #[v, u]).run P w = .ok v' w') (h : wpList P ops Q rest (a.put o.dst v') w') : wpList P ops Q (o :: rest) a w := by
  refine wpList_plain hgd fun K hK => ?_
  unfold Oper.wp execOp
  simp only [ho, resolve, invoke, builtin, Sem.run_bind, Sem.run_pure, Result.andThen_ok, List.map_toArray, List.map_cons, List.map_nil, hs, hx, hr]
  exact hK _ _ h

set_option maxRecDepth 100000 in
theorem num_any (B gw : Nat) (v : Value) (xs : List Int) (sz : Nat) (szI x : Int) (hsI : szI = (sz : Int)) (w : World) (hW : Wr w B gw v xs) (hB : B ≤ w.heap.size) (hx : xs.length ≤ 1099511627776) (h1 : 1 ≤ sz) (h8 : sz ≤ 8) (hv : 0 ≤ x) (hv2 : x.toNat < 2 ^ (8 * sz)) :
    Calls Tryd.prog 20 #[.pointer (some ⟨gw, 0, none⟩), .int .i64 szI, .int .u64 x] w fun e w' => e = .returned (.pointer (some ⟨gw, 0, none⟩)) ∧ ∃ v', Wr w' B gw v' (xs ++ le x sz) ∧ Wk w w' gw v v' := by
  subst hsI
  obtain ⟨a, c, hvf⟩ := hW.own.form
  subst hvf
  obtain ⟨v1, w1, hap, o1, g1, b1⟩ := append_zeros 27 B _ xs sz h1 h8 w hW.own hx hB
  obtain ⟨a1, c1, hv1⟩ := o1.form
  subst hv1
  have hgwl : gw < w.heap.size := (Array.getElem?_eq_some_iff.1 hW.cell).1
  have hne := own_ne hW.own hW.cell (by decide)
  have H1 := grown_blk' g1 hW.cell hne
  obtain ⟨w2, hw2⟩ : ∃ w2, w1.setCell ⟨gw, 0, none⟩ (.slice a1 (xs ++ List.replicate sz (0 : Int)).length c1) = w2 := ⟨_, rfl⟩
  have H2 : w2.heap[gw]? = some (.cells #[.slice a1 (xs ++ List.replicate sz (0 : Int)).length c1] 62 (0, 0)) := by
    rw [← hw2, heap_setCell_same w1 gw 0 _ 62 _ H1]
    rfl
  have s2 : ∀ k, k ≠ gw → w2.heap[k]? = w1.heap[k]? := fun k hk => by rw [← hw2]; exact heap_setCell_other w1 ⟨gw, 0, none⟩ k _ (fun e => hk e)
  have o2 : OwnB w2 B (.slice a1 (xs ++ List.replicate sz (0 : Int)).length c1) (xs ++ List.replicate sz 0) := by
    refine ⟨o1.1, ?_⟩
    rcases o1.2 with h | ⟨g, cap, cur, he, hb, hg, r⟩
    · exact .inl h
    · refine .inr ⟨g, cap, cur, he, hb, ?_, r⟩
      rw [s2 g ?_]
      · exact hg
      · rintro rfl
        rw [H1] at hg
        injection hg with hg
        injection hg with _ e
        exact absurd e (by decide)
  have z2 : w2.heap.size = w1.heap.size := by rw [← hw2]; simp
  have c0 := blk1 hW.cell
  have d0 := blk1 H1
  have e0 := blk1 H2
  have zf := frozen_of_row w1 gw 0 _ 62 H1
  have HP := Lib.hid (put_any _ _ xs.length sz x B w2 o2 h1 h8 hv hv2 (by simp) (by simp; omega))
  have hln : ((xs ++ List.replicate sz (0 : Int)).length : Int) = (xs.length : Int) + (sz : Int) := by simp
  obtain ⟨N, hN⟩ : ∃ N, (xs ++ List.replicate sz (0 : Int)).length = N := ⟨_, rfl⟩
  rw [hN] at hap o1 b1 hw2 H2 o2 e0 HP hln
  have HN2 := Lib.hid (own_ne o2 H2 (by decide))
  have HX : Hid (Wk w w2 gw (.slice a xs.length c) (.slice a1 N c1)) := by
    refine Lib.hid ⟨?_, ?_, ?_, ?_, ?_, ?_⟩
    · rw [← hw2]; exact g1.os
    · rw [← hw2]; exact g1.tape
    · rw [← hw2]; exact g1.output
    · rw [z2]; exact g1.size
    · intro k hk h1 h2
      rw [s2 k h1]
      exact g1.block k hk h2
    · rcases b1 with e | e
      · exact .inl e
      · refine .inr fun k hk => ?_
        rw [e] at hk
        injection hk with hk
        omega
  clear o1 g1 b1 H1 s2 z2 hne hgwl o2
  go_enter Tryd.func20, Tryd.ntmps20
  go_wp2_with (first
    | (at_builtin; refine wpList_append_run rfl (.tmp 17) (.tmp 18) 27 3 rfl (by simp [Act.eval]) (by simp [Act.eval]) hap ?_)
    | (go_at_call 36; refine HP.out.mono ?_; rintro e w' ⟨rfl, o3, g3⟩))
  go_ret
  have h3 := put_next xs sz 0 x
  rw [Nat.add_zero, List.replicate_zero, List.append_nil] at h3
  rw [h3] at o3
  exact ⟨rfl, _, ⟨grown_blk' g3 H2 HN2.out, o3, hW.base⟩, HX.out.trans ⟨g3.os, g3.tape, g3.output, g3.size, fun k hk _ h2 => g3.block k hk h2, .inl rfl⟩⟩

set_option maxRecDepth 100000 in
theorem wyes_any (B gw : Nat) (v : Value) (xs : List Int) (b : Bool) (w : World) (hW : Wr w B gw v xs) (hB : B ≤ w.heap.size) (hx : xs.length ≤ 1099511627776) :
    Calls Tryd.prog 21 #[.pointer (some ⟨gw, 0, none⟩), .bool b] w fun e w' => e = .returned (.pointer (some ⟨gw, 0, none⟩)) ∧ ∃ v', Wr w' B gw v' (xs ++ le (yesI b) 1) ∧ Wk w w' gw v v' := by
  cases b
  · go_enter Tryd.func21, Tryd.ntmps21
    go_wp2_with (go_at_call 20; refine (num_any B gw v xs 1 1 0 rfl _ hW hB hx (by omega) (by omega) (by omega) (by decide)).mono ?_; rintro e w' ⟨rfl, h⟩)
    go_ret
    exact ⟨rfl, h⟩
  · go_enter Tryd.func21, Tryd.ntmps21
    go_wp2_with (go_at_call 20; refine (num_any B gw v xs 1 1 1 rfl _ hW hB hx (by omega) (by omega) (by omega) (by decide)).mono ?_; rintro e w' ⟨rfl, h⟩)
    go_ret
    exact ⟨rfl, h⟩

set_option maxHeartbeats 6400000 in
set_option maxRecDepth 100000 in
theorem wplace_go (Post : Ending → World → Prop) (B gw : Nat) (v : Value) (xs : List Int) (b p : Int) (w : World) (hW : Wr w B gw v xs) (hB : B ≤ w.heap.size) (hx : xs.length ≤ 1000000000000) (hb : 0 ≤ b ∧ b < 65536) (hp : 0 ≤ p ∧ p < 65536) (HPost : Hid (∀ w' v', Wr w' B gw v' (xs ++ placeL b p) → Wk w w' gw v v' → Post (.returned (.pointer (some ⟨gw, 0, none⟩))) w')) :
    Calls Tryd.prog 38 #[.pointer (some ⟨gw, 0, none⟩), .agg #[.int .i64 b, .int .i64 p]] w Post := by
  obtain ⟨g, hg⟩ : ∃ g, w.heap.size = g := ⟨_, rfl⟩
  obtain ⟨w1, hw1⟩ : ∃ w1, w.alloc (.cells #[.int .i64 b, .int .i64 p] 50) = w1 := ⟨_, rfl⟩
  have hG : w.grownBy w1 none := by rw [← hw1]; exact World.grownBy_alloc w _ _
  have H1 : w1.heap[g]? = some (.cells #[.int .i64 b, .int .i64 p] 50 (0, 0)) := by rw [← hw1, ← hg]; exact heap_alloc_new w _
  have hW1 : Wr w1 B gw v xs := ⟨grown_blk' hG hW.cell (by simp), by rw [← hw1]; exact World.ownsRow.alloc hW.own _, hW.base⟩
  have K1 : Wk w w1 gw v v := Wk.of_grown hG
  have hB1 : B ≤ w1.heap.size := Nat.le_trans hB hG.size
  obtain ⟨hb0, hb1⟩ := hb
  obtain ⟨hp0, hp1⟩ := hp
  obtain ⟨c0, c1⟩ := blk2 H1
  have tok0 : True := trivial
  have HW1 := Lib.hid (And.intro hW1.drew hB1)
  have HH1 := Lib.hid H1
  have HK1 := Lib.hid K1
  have HW1' := Lib.hid hW1
  clear hG hW hW1 K1 H1 hB1 hB
  go_enter Tryd.func38, Tryd.ntmps38
  go_wp2
  clear hw1 hg
  have wb : IntKind.u64.wrap b = b := u64_in ⟨hb0, by omega⟩
  have wp : IntKind.u64.wrap p = p := u64_in ⟨hp0, by omega⟩
  go_region_held3 (fun w' => w'.cell? ⟨g, 0, none⟩ = some (.int .i64 b) ∧ w'.cell? ⟨g, 1, none⟩ = some (.int .i64 p)) (first | go_keep | exact ⟨c0, c1⟩ | exact ⟨d0, d1⟩ | exact ⟨e0, e1⟩)
    (first
      | (go_at_call 20; have _t := tok0; refine (num_any B gw v xs 2 2 b rfl _ HW1.out.1 HW1.out.2 (by omega) (by omega) (by omega) hb0 (by omega)).mono ?_; rintro e w2 ⟨rfl, v2, hW2, K2⟩; replace K2 := K2.undrew; have H2 := HW1'.out.keep K2 HH1.out (by decide) (by decide); obtain ⟨d0, d1⟩ := blk2 H2; have hB2 := Nat.le_trans HW1.out.2 K2.size; clear tok0; have tok1 : True := trivial)
      | (go_at_call 20; have _t := tok1; refine (num_any B gw v2 _ 2 2 p rfl _ hW2 hB2 (by rw [List.length_append, le_length]; omega) (by omega) (by omega) hp0 (by omega)).mono ?_; rintro e w3 ⟨rfl, v3, hW3, K3⟩; have H3 := hW2.keep K3 H2 (by decide) (by decide); obtain ⟨e0, e1⟩ := blk2 H3; clear tok1))
  go_wp2
  refine HPost.out _ v3 ?_ ((HK1.out.trans K2).trans K3)
  unfold placeL
  rw [← List.append_assoc]
  exact hW3
theorem wplace_any (B gw : Nat) (v : Value) (xs : List Int) (b p : Int) (w : World) (hW : Wr w B gw v xs) (hB : B ≤ w.heap.size) (hx : xs.length ≤ 1000000000000) (hb : 0 ≤ b ∧ b < 65536) (hp : 0 ≤ p ∧ p < 65536) :
    Calls Tryd.prog 38 #[.pointer (some ⟨gw, 0, none⟩), .agg #[.int .i64 b, .int .i64 p]] w fun e w' => e = .returned (.pointer (some ⟨gw, 0, none⟩)) ∧ ∃ v', Wr w' B gw v' (xs ++ placeL b p) ∧ Wk w w' gw v v' :=
  wplace_go _ B gw v xs b p w hW hB hx hb hp (Lib.hid fun w' v' h1 h2 => ⟨rfl, v', h1, h2⟩)
end Go.Proofs.YtefkklgelmbaiaaDoor
/- The program's writer: an object's bytes. -/
set_option linter.unusedSimpArgs false
set_option linter.unusedVariables false
namespace Go.Proofs.YtefkklgelmbaiaaDoor
open Go.RowKit Go.Proofs

theorem Wr.stored {w w1 : World} {B gw : Nat} {v v1 : Value} {xs ys : List Int} (hW : Wr w B gw v xs) (o1 : OwnB w1 B v1 ys) (g1 : w.grownBy w1 v.ownBlock) (b1 : v1.ownBlock = v.ownBlock ∨ v1.ownBlock = some w.heap.size) :
    w1.heap[gw]? = some (.cells #[v] 62 (0, 0)) ∧ Wr (w1.setCell ⟨gw, 0, none⟩ v1) B gw v1 ys ∧ Wk w (w1.setCell ⟨gw, 0, none⟩ v1) gw v v1 := by
  have hne := own_ne hW.own hW.cell (by decide)
  have H1 := grown_blk' g1 hW.cell hne
  have s2 : ∀ k, k ≠ gw → (w1.setCell ⟨gw, 0, none⟩ v1).heap[k]? = w1.heap[k]? := fun k hk => heap_setCell_other w1 ⟨gw, 0, none⟩ k _ (fun e => hk e)
  refine ⟨H1, ⟨?_, ?_, hW.base⟩, ⟨g1.os, g1.tape, g1.output, ?_, ?_, ?_⟩⟩
  · rw [heap_setCell_same w1 gw 0 _ 62 _ H1]
    rfl
  · refine ⟨o1.1, ?_⟩
    rcases o1.2 with h | ⟨g, cap, cur, he, hb, hg, r⟩
    · exact .inl h
    · refine .inr ⟨g, cap, cur, he, hb, ?_, r⟩
      rw [s2 g ?_]
      · exact hg
      · rintro rfl
        rw [H1] at hg
        injection hg with hg
        injection hg with _ e
        exact absurd e (by decide)
  · have z2 : (w1.setCell ⟨gw, 0, none⟩ v1).heap.size = w1.heap.size := by simp
    rw [z2]; exact g1.size
  · intro k hk h1 h2
    rw [s2 k h1]
    exact g1.block k hk h2
  · rcases b1 with e | e
    · exact .inl e
    · refine .inr fun k hk => ?_
      rw [e] at hk
      injection hk with hk
      omega
theorem append_bytes (ty : TypeId) (B B' : Nat) (v vb : Value) (xs ys : List Int) (w : World) (ho : OwnB w B v xs) (hb : OwnB w B' vb ys) (h1 : 0 < ys.length) (hl : xs.length + ys.length ≤ 1099511627776) (hB : B ≤ w.heap.size) :
    ∃ v' w', (Builtin.append_ #[27, 27] ty #[v, vb]).run Tryd.prog w = .ok v' w' ∧ OwnB w' B v' (xs ++ ys) ∧ w.grownBy w' v.ownBlock ∧ (v'.ownBlock = v.ownBlock ∨ v'.ownBlock = some w.heap.size) := by
  obtain ⟨i, hi, hz, hs, hby⟩ := info_byte
  obtain ⟨gb, cb, rfl, _, _⟩ := hb.blk h1
  obtain ⟨v', w', hr, h2, h3, h4⟩ := run_append_own_at (P := Tryd.prog) w B 27 ty 5 i (.int .u8 0) 1 1 Tryd.underlying27 hi hz hs hby rfl (by decide) v xs.length (xs.map (Value.int .u8)) ho ⟨gb, 0, none⟩ ys.length cb (ys.map (Value.int .u8)) (by simp)
    (fun j u hj => by
      have hj' : j < ys.length := by simpa using (List.getElem?_eq_some_iff.1 hj).1
      rw [Lib.add_plain, Nat.zero_add, hb.cellAt j hj', ← hj]
      simp [hj'])
    (by intro u hu; obtain ⟨x, _, rfl⟩ := List.mem_map.1 hu; rfl) (by unfold maxLen; omega) (by omega) hB
  refine ⟨v', w', hr, ?_, h3, h4.2⟩
  unfold OwnB
  rw [List.length_append, List.map_append]
  exact h2

theorem blk13 {w : World} {g : Nat} {v0 v1 v2 v3 v4 v5 v6 v7 v8 v9 v10 v11 v12 : Value} {t : TypeId} {fz : Nat × Nat} (h : w.heap[g]? = some (.cells #[v0, v1, v2, v3, v4, v5, v6, v7, v8, v9, v10, v11, v12] t fz)) : w.cell? ⟨g, 0, none⟩ = some v0 ∧ w.cell? ⟨g, 1, none⟩ = some v1 ∧ w.cell? ⟨g, 2, none⟩ = some v2 ∧ w.cell? ⟨g, 3, none⟩ = some v3 ∧ w.cell? ⟨g, 4, none⟩ = some v4 ∧ w.cell? ⟨g, 5, none⟩ = some v5 ∧ w.cell? ⟨g, 6, none⟩ = some v6 ∧ w.cell? ⟨g, 7, none⟩ = some v7 ∧ w.cell? ⟨g, 8, none⟩ = some v8 ∧ w.cell? ⟨g, 9, none⟩ = some v9 ∧ w.cell? ⟨g, 10, none⟩ = some v10 ∧ w.cell? ⟨g, 11, none⟩ = some v11 ∧ w.cell? ⟨g, 12, none⟩ = some v12 :=
  ⟨blk_cell h rfl, blk_cell h rfl, blk_cell h rfl, blk_cell h rfl, blk_cell h rfl, blk_cell h rfl, blk_cell h rfl, blk_cell h rfl, blk_cell h rfl, blk_cell h rfl, blk_cell h rfl, blk_cell h rfl, blk_cell h rfl⟩

theorem placeL_length (b p : Int) : (placeL b p).length = 4 := by unfold placeL; rw [List.length_append, le_length, le_length]
theorem chunkL_length (c : Chk) : (chunkL c).length = 10 := by unfold chunkL; rw [List.length_append, List.length_append, le_length, le_length, placeL_length]
theorem chunks_mem : ∀ {cs : List Chk} {last : Int}, -1 ≤ last → chunksB last cs = true → ∀ c ∈ cs, 0 ≤ c.c ∧ c.c ≤ 1048575 ∧ 0 ≤ c.b ∧ c.b < 4096 ∧ 0 ≤ c.p ∧ c.p < 256 ∧ 0 ≤ c.n ∧ c.n ≤ 2048
  | [], _, _, _, _, h => by cases h
  | x :: r, last, hl, h, c, hc => by
    unfold chunksB placeB at h
    simp only [Bool.and_eq_true, decide_eq_true_eq] at h
    obtain ⟨⟨⟨h1, h2⟩, h3⟩, h4⟩ := h
    rcases List.mem_cons.1 hc with rfl | hc
    · omega
    · exact chunks_mem (by omega) h4 c hc
theorem Wk.keepB {w w' : World} {gw B : Nat} {v v' vb : Value} {ys : List Int} (q : Wk w w' gw v v') (h : OwnB w B vb ys) (h1 : gw < B) (h2 : ∀ k, v.ownBlock = some k → k < B) : OwnB w' B vb ys := by
  refine ⟨h.1, ?_⟩
  rcases h.2 with h | ⟨g, cap, cur, he, hb, hg, r⟩
  · exact .inl h
  · refine .inr ⟨g, cap, cur, he, hb, (q.block g (Array.getElem?_eq_some_iff.1 hg).1 (by omega) ?_).trans hg, r⟩
    intro e
    have := h2 g e.symm
    omega
def chunksL (cs : List Chk) (i : Nat) : List Int := ((cs.take i).map chunkL).flatten
theorem chunksL_succ (cs : List Chk) (i : Nat) (h : i < cs.length) : chunksL cs (i + 1) = chunksL cs i ++ chunkL cs[i] := by
  unfold chunksL
  rw [List.take_succ_eq_append_getElem h, List.map_append, List.flatten_append]
  simp
theorem chunksL_length (cs : List Chk) (i : Nat) (h : i ≤ cs.length) : (chunksL cs i).length = 10 * i := by
  induction i with
  | zero => simp [chunksL]
  | succ i ih => rw [chunksL_succ cs i (by omega), List.length_append, chunkL_length, ih (by omega)]; omega


set_option maxHeartbeats 6400000 in
set_option maxRecDepth 100000 in
theorem wobject_go (Post : Ending → World → Prop) (w0 : World) (hw0 : Ok w0) (o : Obj') (A : Option Addr) (c : Nat) (gw : Nat) (v : Value) (xs : List Int) (w : World) (f : Fr w0 w) (hW : Wr w w0.heap.size gw v xs) (hC : CRow w0 A o.cs) (hcl : o.cs.length ≤ c) (hwf : o.wf) (hnm : o.nd.name.size ≤ 1073741824) (hok : objB o = true) (hx : xs.length ≤ 700000000000)
    (HPost : Hid (∀ w' v', Wr w' w0.heap.size gw v' (xs ++ objL o) → Wk w w' gw v v' → Post (.returned (.pointer (some ⟨gw, 0, none⟩))) w')) :
    Calls Tryd.prog 22 #[.pointer (some ⟨gw, 0, none⟩), .agg #[.int .i64 o.id, .bool o.head, .int .i64 o.nd.ty, .int .i64 o.nd.par, .string o.nd.name, .int .i64 o.nd.size, .int .i64 o.nd.mode, .int .u64 o.nd.stamp, .int .i64 o.nd.shadow, .string o.nd.tgt, .int .i64 o.pb, .int .i64 o.pp, .slice A o.cs.length c]] w Post := by
  obtain ⟨id, head, nd, pb, pp, cs⟩ := o
  dsimp only at hC hcl hnm hok ⊢
  obtain ⟨_, hnd, _⟩ := hwf
  dsimp only at hnd
  unfold objB at hok
  dsimp only at hok
  simp only [Bool.and_eq_true, decide_eq_true_eq] at hok
  obtain ⟨⟨⟨hi1, hi2, hcs⟩, hch⟩, hhd⟩ := hok
  have HM := Lib.hid (chunks_mem (Int.le_refl _) hch)
  clear hch
  obtain ⟨g, hg⟩ : ∃ g, w.heap.size = g := ⟨_, rfl⟩
  obtain ⟨w1, hw1⟩ : ∃ w1, w.alloc (.cells #[.int .i64 id, .bool head, .int .i64 nd.ty, .int .i64 nd.par, .string nd.name, .int .i64 nd.size, .int .i64 nd.mode, .int .u64 nd.stamp, .int .i64 nd.shadow, .string nd.tgt, .int .i64 pb, .int .i64 pp, .slice A cs.length c] 53) = w1 := ⟨_, rfl⟩
  have hG : Fr w w1 := by rw [← hw1]; exact (Fr.refl f.ok).alloc _
  have H3 : w1.heap[g]? = some (.cells #[.int .i64 id, .bool head, .int .i64 nd.ty, .int .i64 nd.par, .string nd.name, .int .i64 nd.size, .int .i64 nd.mode, .int .u64 nd.stamp, .int .i64 nd.shadow, .string nd.tgt, .int .i64 pb, .int .i64 pp, .slice A cs.length c] 53 (0, 0)) := by rw [← hw1, ← hg]; exact heap_alloc_new w _
  have W := hW.move hG
  have HK := Lib.hid (Wk.of_fr (gw := gw) (v := v) hG)
  replace f := f.trans hG
  have hB := f.size
  obtain ⟨c0, c1, c2, c3, c4, c5, c6, c7, c8, c9, c10, c11, c12⟩ := blk13 H3
  have wid : IntKind.u64.wrap id = id := u64_in ⟨by omega, by omega⟩
  have HH := Lib.hid hhd
  have HC := Lib.hid hC
  clear hhd hG hW hC
  have tok0 : True := trivial
  go_enter Tryd.func22, Tryd.ntmps22
  go_wp2
  clear hw1 hg
  go_region_held3 (fun w' => w'.cell? ⟨g, 0, none⟩ = some (.int .i64 id) ∧ w'.cell? ⟨g, 1, none⟩ = some (.bool head)) (first | go_keep | exact ⟨c0, c1⟩)
    (first
      | (go_at_call 20; have _t := tok0; refine (num_any _ gw v xs 4 4 id rfl _ W.drew hB (by omega) (by omega) (by omega) (by omega) (by omega)).mono ?_; rintro e w2 ⟨rfl, v2, W2, q⟩; replace q := q.undrew; replace f := W.fr f hw0 (Nat.le_refl _) q; replace H3 := W.keep q H3 (by decide) (by decide); replace HK := Lib.hid (HK.out.trans q); clear W q; have W := W2; clear W2; have hB2 := f.size; obtain ⟨c0, c1, c2, c3, c4, c5, c6, c7, c8, c9, c10, c11, c12⟩ := blk13 H3; clear tok0 hB; have tok1 : True := trivial)
      | (go_at_call 21; have _t := tok1; refine (wyes_any _ gw v2 _ head _ W hB2 (by simp only [List.length_append, le_length, nodeL_length, placeL_length]; omega)).mono ?_; rintro e w3 ⟨rfl, v3, W2, q⟩; replace f := W.fr f hw0 (Nat.le_refl _) q; replace H3 := W.keep q H3 (by decide) (by decide); replace HK := Lib.hid (HK.out.trans q); clear W q; have W := W2; clear W2; have hB2 := f.size; obtain ⟨c0, c1, c2, c3, c4, c5, c6, c7, c8, c9, c10, c11, c12⟩ := blk13 H3; clear tok1; have tok2 : True := trivial))
  cases head
  · have HL : Hid (xs ++ objL ⟨id, false, nd, pb, pp, cs⟩ = xs ++ le id 4 ++ le (yesI false) 1 ++ le (cs.length : Int) 4 ++ chunksL cs cs.length) := Lib.hid (by unfold objL chunksL; simp only [List.take_length, List.append_assoc]; rfl)
    go_wp2_with (first
      | (go_at_call 20; have _t := tok2; refine (num_any _ gw v3 _ 4 4 cs.length rfl _ W hB2 (by simp only [List.length_append, le_length, nodeL_length, placeL_length]; omega) (by omega) (by omega) (by omega) (by omega)).mono ?_; rintro e w4 ⟨rfl, v4, W2, q⟩; replace f := W.fr f hw0 (Nat.le_refl _) q; replace H3 := W.keep q H3 (by decide) (by decide); replace HK := Lib.hid (HK.out.trans q); clear W q; have W := W2; clear W2; have hB2 := f.size; obtain ⟨c0, c1, c2, c3, c4, c5, c6, c7, c8, c9, c10, c11, c12⟩ := blk13 H3; clear tok2))
    clear c0 c1 c2 c3 c4 c5 c6 c7 c8 c9 c10 c11 c12 H3
    obtain ⟨base, hbase⟩ : ∃ base, xs ++ le id 4 ++ le (yesI false) 1 ++ le (cs.length : Int) 4 = base := ⟨_, rfl⟩
    have hbl : base.length ≤ 700000001000 := by rw [← hbase]; simp only [List.length_append, le_length]; omega
    rw [hbase] at W HL
    clear hbase
    go_loopg [52] cs.length (fun k v52 wc => ∃ (i : Nat) (vi : Value), v52 = .int .i64 (i : Int) ∧ k + i = cs.length ∧ Hid (Wr wc w0.heap.size gw vi (base ++ chunksL cs i)) ∧ Hid (Wk w wc gw v vi) ∧ Hid (Fr w0 wc))
    case atStart => exact ⟨0, v4, rfl, by omega, Lib.hid (by rw [show chunksL cs 0 = [] from rfl, List.append_nil]; exact W), HK, Lib.hid f⟩
    case round =>
      clear W HK f
      obtain ⟨i, vi, rfl, hk, HW, HK, HF⟩ := hrel
      cases gk with
      | zero =>
        have d4 : decide ((i : Int) < (cs.length : Int)) = false := decide_eq_false (by omega)
        obtain rfl : i = cs.length := by omega
        go_wp2
        exact HPost.out _ vi (by rw [HL.out]; exact HW.out) HK.out
      | succ k =>
        have hi : i < cs.length := by omega
        have d4 : decide ((i : Int) < (cs.length : Int)) = true := decide_eq_true (by omega)
        have f := HF.out
        clear HF
        obtain ⟨gC, oC, hA, x0, x1, x2, x3⟩ := (HC.out.fr f).get hi
        obtain ⟨m0, m1, m2, m3, m4, m5, m6, m7⟩ := HM.out cs[i] (List.getElem_mem hi)
        have HS := chunksL_succ cs i hi
        have hcl8 := chunksL_length cs i (Nat.le_of_lt hi)
        obtain ⟨ch, hch⟩ : ∃ ch, cs[i] = ch := ⟨_, rfl⟩
        rw [hch] at x0 x1 x2 x3 m0 m1 m2 m3 m4 m5 m6 m7 HS
        clear hch
        obtain ⟨cc, cb, cp, cn⟩ := ch
        dsimp only at x0 x1 x2 x3 m0 m1 m2 m3 m4 m5 m6 m7
        have HS' := Lib.hid HS
        clear HS
        subst hA
        obtain ⟨w8, g8, hg8, hw8, f8, hz8, H8⟩ := boxedN f.ok #[.int .i64 cc, .int .i64 cb, .int .i64 cp, .int .i64 cn] 59
        have W := HW.out.move f8
        have HX := Lib.hid (HK.out.trans (Wk.of_fr (gw := gw) (v := vi) f8))
        replace f := f.trans f8
        clear f8 HW HK
        have hB := f.size
        obtain ⟨e0, e1, e2, e3⟩ := blk4 H8
        have wcc : IntKind.u64.wrap cc = cc := u64_in ⟨by omega, by omega⟩
        have wcn : IntKind.u64.wrap cn = cn := u64_in ⟨by omega, by omega⟩
        have tok0 : True := trivial
        go_wp2
        clear hw8 hg8 x0 x1 x2 x3
        go_region_held3 (fun w' => w'.cell? ⟨g8, 0, none⟩ = some (.int .i64 cc) ∧ w'.cell? ⟨g8, 1, none⟩ = some (.int .i64 cb) ∧ w'.cell? ⟨g8, 2, none⟩ = some (.int .i64 cp) ∧ w'.cell? ⟨g8, 3, none⟩ = some (.int .i64 cn)) (first | go_keep | exact ⟨e0, e1, e2, e3⟩)
          (first
            | (go_at_call 20; have _t := tok0; refine (num_any _ gw vi _ 4 4 cc rfl _ W.drew hB (by simp only [List.length_append, le_length, placeL_length]; omega) (by omega) (by omega) (by omega) (by omega)).mono ?_; rintro e w2 ⟨rfl, v2, W2, q⟩; replace q := q.undrew; replace HX := Lib.hid (HX.out.trans q); replace f := W.fr f hw0 (Nat.le_refl _) q; replace H8 := W.keep q H8 (by decide) (by decide); clear W q; have W := W2; clear W2; have hB2 := f.size; obtain ⟨e0, e1, e2, e3⟩ := blk4 H8; clear tok0 hB; have tok1 : True := trivial)
            | (go_at_call 38; have _t := tok1; refine (wplace_any _ gw v2 _ cb cp _ W hB2 (by simp only [List.length_append, le_length, placeL_length]; omega) ⟨by omega, by omega⟩ ⟨by omega, by omega⟩).mono ?_; rintro e w3 ⟨rfl, v3, W2, q⟩; replace HX := Lib.hid (HX.out.trans q); replace f := W.fr f hw0 (Nat.le_refl _) q; replace H8 := W.keep q H8 (by decide) (by decide); clear W q; have W := W2; clear W2; have hB2 := f.size; obtain ⟨e0, e1, e2, e3⟩ := blk4 H8; clear tok1; have tok2 : True := trivial)
            | (go_at_call 20; have _t := tok2; refine (num_any _ gw v3 _ 2 2 cn rfl _ W hB2 (by simp only [List.length_append, le_length, placeL_length]; omega) (by omega) (by omega) (by omega) (by omega)).mono ?_; rintro e w4 ⟨rfl, v4, W2, q⟩; replace HX := Lib.hid (HX.out.trans q); replace f := W.fr f hw0 (Nat.le_refl _) q; replace H8 := W.keep q H8 (by decide) (by decide); clear W q; have W := W2; clear W2; have hB2 := f.size; obtain ⟨e0, e1, e2, e3⟩ := blk4 H8; clear tok2))
        go_wp2
        go_roundg k
        case measure => omega
        case rel => exact ⟨i + 1, v4, by simp, by omega, Lib.hid (by rw [HS'.out]; unfold chunkL; simp only [← List.append_assoc] at W ⊢; exact W), HX, Lib.hid f⟩
  · have HH2 := HH.out
    rw [if_pos rfl] at HH2
    simp only [Bool.and_eq_true, decide_eq_true_eq] at HH2
    obtain ⟨⟨hck, _hsh⟩, hpl⟩ := HH2
    clear _hsh
    unfold placeB at hpl
    obtain ⟨p0, p1, p2, p3⟩ := of_decide_eq_true hpl
    clear hpl
    obtain ⟨_, _, _, _, kn, _, _, _, _, _, _, kt⟩ := check_facts hck
    have HP : Hid (packN nd = nodeL nd) := Lib.hid (if_pos hck)
    obtain ⟨NL, HN⟩ : ∃ NL, Hid ((nodeL nd).length = NL) := ⟨_, Lib.hid rfl⟩
    have hN1 : 25 ≤ NL ∧ NL ≤ 215 := by have h1 := nodeL_length nd; have h2 := HN.out; omega
    obtain ⟨hN1, hN2⟩ := hN1
    have HL : Hid (xs ++ objL ⟨id, true, nd, pb, pp, cs⟩ = xs ++ le id 4 ++ le (yesI true) 1 ++ le (NL : Int) 1 ++ nodeL nd ++ placeL pb pp ++ le (cs.length : Int) 4 ++ chunksL cs cs.length) := Lib.hid (by rw [← HN.out]; unfold objL chunksL; simp only [List.take_length, List.append_assoc, if_true])
    go_wp2_with (first
      | (go_at_call 37; have _t := tok2; refine (nodePack_any nd hnd hnm _ f.ok).mono ?_; rintro e w4 ⟨q, vb, rfl, OB⟩; rw [HP.out] at OB; obtain ⟨gb, cb, hvb, hbb, _⟩ := OB.blk (by rw [HN.out]; omega); rw [HN.out] at hvb; subst hvb; have hgl := (Array.getElem?_eq_some_iff.1 W.cell).1; have hol : ∀ k, v3.ownBlock = some k → k < w3.heap.size := (fun k hk => (W.own.lt hk).2); replace OB := Lib.hid OB; replace W := W.move q; replace HK := Lib.hid (HK.out.trans (Wk.of_fr (gw := gw) (v := v3) q)); replace H3 := q.heap H3; replace f := f.trans q; clear q; have hB2 := f.size; have wNL : IntKind.u64.wrap (NL : Int) = (NL : Int) := u64_in ⟨by omega, by omega⟩; obtain ⟨c0, c1, c2, c3, c4, c5, c6, c7, c8, c9, c10, c11, c12⟩ := blk13 H3; clear tok2; have tok3 : True := trivial)
      | (go_at_call 20; have _t := tok3; refine (num_any _ gw v3 _ 1 1 NL rfl _ W hB2 (by simp only [List.length_append, le_length, nodeL_length, placeL_length]; omega) (by omega) (by omega) (by omega) (by omega)).mono ?_; rintro e w5 ⟨rfl, v5, W2, q⟩; replace OB := Lib.hid (q.keepB OB.out hgl hol); replace f := W.fr f hw0 (Nat.le_refl _) q; replace H3 := W.keep q H3 (by decide) (by decide); replace HK := Lib.hid (HK.out.trans q); clear W q; have W := W2; clear W2; have hB2 := f.size; obtain ⟨c0, c1, c2, c3, c4, c5, c6, c7, c8, c9, c10, c11, c12⟩ := blk13 H3; clear tok3 hgl hol; obtain ⟨a5, b5, hv5⟩ := W.own.form; obtain ⟨N5, hN5⟩ : ∃ N5, (xs ++ le id 4 ++ le (yesI true) 1 ++ le (NL : Int) 1).length = N5 := ⟨_, rfl⟩; rw [hN5] at hv5; subst hv5; obtain ⟨v6, w6, hap, o6, g6, b6⟩ := append_bytes 27 _ _ _ _ _ _ w5 W.own OB.out (by rw [HN.out]; omega) (by rw [hN5, HN.out, ← hN5]; simp only [List.length_append, le_length]; omega) hB2; obtain ⟨a6, b6', hv6⟩ := o6.form; obtain ⟨N6, hN6⟩ : ∃ N6, (xs ++ le id 4 ++ le (yesI true) 1 ++ le (NL : Int) 1 ++ nodeL nd).length = N6 := ⟨_, rfl⟩; rw [hN6] at hv6; subst hv6; obtain ⟨H6, W2, q⟩ := W.stored o6 g6 b6; clear o6 g6 b6 hN5 hN6; obtain ⟨w7, hw7⟩ : ∃ w7, w6.setCell ⟨gw, 0, none⟩ (.slice a6 N6 b6') = w7 := ⟨_, rfl⟩; rw [hw7] at W2 q; have y0 := blk1 W.cell; have y1 := blk1 H6; have zf := frozen_of_row w6 gw 0 _ 62 H6; clear H6; have z0 := blk1 W2.cell; replace f := W.fr f hw0 (Nat.le_refl _) q; replace H3 := W.keep q H3 (by decide) (by decide); replace HK := Lib.hid (HK.out.trans q); clear W q; have W := W2; clear W2; have hB2 := f.size; obtain ⟨c0, c1, c2, c3, c4, c5, c6, c7, c8, c9, c10, c11, c12⟩ := blk13 H3; have tok4 : True := trivial)
      | (at_builtin; refine wpList_append_run rfl (.tmp 34) (.tmp 35) 27 27 rfl (by simp [Act.eval]) (by simp [Act.eval]) hap ?_)
      | (go_at_call 38; have _t := tok4; refine (wplace_any _ gw _ _ pb pp _ W hB2 (by simp only [List.length_append, le_length, nodeL_length, placeL_length]; omega) ⟨by omega, by omega⟩ ⟨by omega, by omega⟩).mono ?_; rintro e w8 ⟨rfl, v8, W2, q⟩; replace f := W.fr f hw0 (Nat.le_refl _) q; replace H3 := W.keep q H3 (by decide) (by decide); replace HK := Lib.hid (HK.out.trans q); clear W q; have W := W2; clear W2; have hB2 := f.size; obtain ⟨c0, c1, c2, c3, c4, c5, c6, c7, c8, c9, c10, c11, c12⟩ := blk13 H3; clear tok4; have tok5 : True := trivial)
      | (go_at_call 20; have _t := tok5; refine (num_any _ gw v8 _ 4 4 cs.length rfl _ W hB2 (by simp only [List.length_append, le_length, nodeL_length, placeL_length]; omega) (by omega) (by omega) (by omega) (by omega)).mono ?_; rintro e w4 ⟨rfl, v4, W2, q⟩; replace f := W.fr f hw0 (Nat.le_refl _) q; replace H3 := W.keep q H3 (by decide) (by decide); replace HK := Lib.hid (HK.out.trans q); clear W q; have W := W2; clear W2; have hB2 := f.size; obtain ⟨c0, c1, c2, c3, c4, c5, c6, c7, c8, c9, c10, c11, c12⟩ := blk13 H3; clear tok5))
    clear c0 c1 c2 c3 c4 c5 c6 c7 c8 c9 c10 c11 c12 H3 OB hap y0 y1 zf z0 hw7
    obtain ⟨base, hbase⟩ : ∃ base, xs ++ le id 4 ++ le (yesI true) 1 ++ le (NL : Int) 1 ++ nodeL nd ++ placeL pb pp ++ le (cs.length : Int) 4 = base := ⟨_, rfl⟩
    have hbl : base.length ≤ 700000001000 := by rw [← hbase]; simp only [List.length_append, le_length, placeL_length, nodeL_length]; omega
    rw [hbase] at W HL
    clear hbase
    go_loopg [52] cs.length (fun k v52 wc => ∃ (i : Nat) (vi : Value), v52 = .int .i64 (i : Int) ∧ k + i = cs.length ∧ Hid (Wr wc w0.heap.size gw vi (base ++ chunksL cs i)) ∧ Hid (Wk w wc gw v vi) ∧ Hid (Fr w0 wc))
    case atStart => exact ⟨0, v4, rfl, by omega, Lib.hid (by rw [show chunksL cs 0 = [] from rfl, List.append_nil]; exact W), HK, Lib.hid f⟩
    case round =>
      clear W HK f
      obtain ⟨i, vi, rfl, hk, HW, HK, HF⟩ := hrel
      cases gk with
      | zero =>
        have d4 : decide ((i : Int) < (cs.length : Int)) = false := decide_eq_false (by omega)
        obtain rfl : i = cs.length := by omega
        go_wp2
        exact HPost.out _ vi (by rw [HL.out]; exact HW.out) HK.out
      | succ k =>
        have hi : i < cs.length := by omega
        have d4 : decide ((i : Int) < (cs.length : Int)) = true := decide_eq_true (by omega)
        have f := HF.out
        clear HF
        obtain ⟨gC, oC, hA, x0, x1, x2, x3⟩ := (HC.out.fr f).get hi
        obtain ⟨m0, m1, m2, m3, m4, m5, m6, m7⟩ := HM.out cs[i] (List.getElem_mem hi)
        have HS := chunksL_succ cs i hi
        have hcl8 := chunksL_length cs i (Nat.le_of_lt hi)
        obtain ⟨ch, hch⟩ : ∃ ch, cs[i] = ch := ⟨_, rfl⟩
        rw [hch] at x0 x1 x2 x3 m0 m1 m2 m3 m4 m5 m6 m7 HS
        clear hch
        obtain ⟨cc, cb, cp, cn⟩ := ch
        dsimp only at x0 x1 x2 x3 m0 m1 m2 m3 m4 m5 m6 m7
        have HS' := Lib.hid HS
        clear HS
        subst hA
        obtain ⟨w8, g8, hg8, hw8, f8, hz8, H8⟩ := boxedN f.ok #[.int .i64 cc, .int .i64 cb, .int .i64 cp, .int .i64 cn] 59
        have W := HW.out.move f8
        have HX := Lib.hid (HK.out.trans (Wk.of_fr (gw := gw) (v := vi) f8))
        replace f := f.trans f8
        clear f8 HW HK
        have hB := f.size
        obtain ⟨e0, e1, e2, e3⟩ := blk4 H8
        have wcc : IntKind.u64.wrap cc = cc := u64_in ⟨by omega, by omega⟩
        have wcn : IntKind.u64.wrap cn = cn := u64_in ⟨by omega, by omega⟩
        have tok0 : True := trivial
        go_wp2
        clear hw8 hg8 x0 x1 x2 x3
        go_region_held3 (fun w' => w'.cell? ⟨g8, 0, none⟩ = some (.int .i64 cc) ∧ w'.cell? ⟨g8, 1, none⟩ = some (.int .i64 cb) ∧ w'.cell? ⟨g8, 2, none⟩ = some (.int .i64 cp) ∧ w'.cell? ⟨g8, 3, none⟩ = some (.int .i64 cn)) (first | go_keep | exact ⟨e0, e1, e2, e3⟩)
          (first
            | (go_at_call 20; have _t := tok0; refine (num_any _ gw vi _ 4 4 cc rfl _ W.drew hB (by simp only [List.length_append, le_length, placeL_length]; omega) (by omega) (by omega) (by omega) (by omega)).mono ?_; rintro e w2 ⟨rfl, v2, W2, q⟩; replace q := q.undrew; replace HX := Lib.hid (HX.out.trans q); replace f := W.fr f hw0 (Nat.le_refl _) q; replace H8 := W.keep q H8 (by decide) (by decide); clear W q; have W := W2; clear W2; have hB2 := f.size; obtain ⟨e0, e1, e2, e3⟩ := blk4 H8; clear tok0 hB; have tok1 : True := trivial)
            | (go_at_call 38; have _t := tok1; refine (wplace_any _ gw v2 _ cb cp _ W hB2 (by simp only [List.length_append, le_length, placeL_length]; omega) ⟨by omega, by omega⟩ ⟨by omega, by omega⟩).mono ?_; rintro e w3 ⟨rfl, v3, W2, q⟩; replace HX := Lib.hid (HX.out.trans q); replace f := W.fr f hw0 (Nat.le_refl _) q; replace H8 := W.keep q H8 (by decide) (by decide); clear W q; have W := W2; clear W2; have hB2 := f.size; obtain ⟨e0, e1, e2, e3⟩ := blk4 H8; clear tok1; have tok2 : True := trivial)
            | (go_at_call 20; have _t := tok2; refine (num_any _ gw v3 _ 2 2 cn rfl _ W hB2 (by simp only [List.length_append, le_length, placeL_length]; omega) (by omega) (by omega) (by omega) (by omega)).mono ?_; rintro e w4 ⟨rfl, v4, W2, q⟩; replace HX := Lib.hid (HX.out.trans q); replace f := W.fr f hw0 (Nat.le_refl _) q; replace H8 := W.keep q H8 (by decide) (by decide); clear W q; have W := W2; clear W2; have hB2 := f.size; obtain ⟨e0, e1, e2, e3⟩ := blk4 H8; clear tok2))
        go_wp2
        go_roundg k
        case measure => omega
        case rel => exact ⟨i + 1, v4, by simp, by omega, Lib.hid (by rw [HS'.out]; unfold chunkL; simp only [← List.append_assoc] at W ⊢; exact W), HX, Lib.hid f⟩
theorem wobject_any (w0 : World) (hw0 : Ok w0) (o : Obj') (A : Option Addr) (c : Nat) (gw : Nat) (v : Value) (xs : List Int) (w : World) (f : Fr w0 w) (hW : Wr w w0.heap.size gw v xs) (hC : CRow w0 A o.cs) (hcl : o.cs.length ≤ c) (hwf : o.wf) (hnm : o.nd.name.size ≤ 1073741824) (hok : objB o = true) (hx : xs.length ≤ 700000000000) :
    Calls Tryd.prog 22 #[.pointer (some ⟨gw, 0, none⟩), .agg #[.int .i64 o.id, .bool o.head, .int .i64 o.nd.ty, .int .i64 o.nd.par, .string o.nd.name, .int .i64 o.nd.size, .int .i64 o.nd.mode, .int .u64 o.nd.stamp, .int .i64 o.nd.shadow, .string o.nd.tgt, .int .i64 o.pb, .int .i64 o.pp, .slice A o.cs.length c]] w fun e w' => e = .returned (.pointer (some ⟨gw, 0, none⟩)) ∧ ∃ v', Wr w' w0.heap.size gw v' (xs ++ objL o) ∧ Wk w w' gw v v' :=
  wobject_go _ w0 hw0 o A c gw v xs w f hW hC hcl hwf hnm hok hx (Lib.hid fun w' v' h1 h2 => ⟨rfl, v', h1, h2⟩)
end Go.Proofs.YtefkklgelmbaiaaDoor
/- goodObject and good (the program): which states may be packed. Struct comparisons. -/
set_option linter.unusedSimpArgs false
set_option linter.unusedVariables false
namespace Go.Proofs.YtefkklgelmbaiaaDoor
open Go.RowKit Go.Proofs

theorem strEq (x y : ByteArray) : (x.toList == y.toList) = decide (x = y) := by
  rw [Lib.toList_data, Lib.toList_data, Bool.eq_iff_iff]
  simp only [beq_iff_eq, decide_eq_true_eq]
  constructor
  · intro h
    have : x.data = y.data := Array.ext' h
    cases x; cases y; simp only at this; rw [this]
  · intro h; rw [h]
theorem eqPlace (d : Nat) (w : World) (x0 y0 x1 y1 : Int) :
    (Op.equalIn (d + 2) 50 (.agg #[.int .i64 x0, .int .i64 x1]) (.agg #[.int .i64 y0, .int .i64 y1])).run Tryd.prog w = .ok (x0 == y0 && (x1 == y1 && true)) w := by
  refine eq_struct Tryd.underlying50 (by kernel_rfl) ?_
  refine eq_field (by decide) (by go_simp; rfl) (by go_simp; rfl) (by go_simp) ?_
  exact eq_field (by decide) (by go_simp; rfl) (by go_simp; rfl) (by go_simp) eq_done
def nodV (n : Nod) : Value := .agg #[.int .i64 n.ty, .int .i64 n.par, .string n.name, .int .i64 n.size, .int .i64 n.mode, .int .u64 n.stamp, .int .i64 n.shadow, .string n.tgt]
theorem eqNode (d : Nat) (w : World) (x y : Nod) :
    (Op.equalIn (d + 2) 48 (nodV x) (nodV y)).run Tryd.prog w = .ok (decide (x = y)) w := by
  have e : decide (x = y) = (x.ty == y.ty && (x.par == y.par && (decide (x.name = y.name) && (x.size == y.size && (x.mode == y.mode && (x.stamp == y.stamp && (x.shadow == y.shadow && (decide (x.tgt = y.tgt) && true)))))))) := by
    rw [Bool.eq_iff_iff]
    obtain ⟨_, _, _, _, _, _, _, _⟩ := x
    obtain ⟨_, _, _, _, _, _, _, _⟩ := y
    simp
  rw [e]
  unfold nodV
  refine eq_struct Tryd.underlying48 (by kernel_rfl) ?_
  refine eq_field (by decide) (by go_simp; rfl) (by go_simp; rfl) (by go_simp) ?_
  refine eq_field (by decide) (by go_simp; rfl) (by go_simp; rfl) (by go_simp) ?_
  refine eq_field (by decide) (by go_simp; rfl) (by go_simp; rfl) (by go_simp; exact strEq _ _) ?_
  refine eq_field (by decide) (by go_simp; rfl) (by go_simp; rfl) (by go_simp) ?_
  refine eq_field (by decide) (by go_simp; rfl) (by go_simp; rfl) (by go_simp) ?_
  refine eq_field (by decide) (by go_simp; rfl) (by go_simp; rfl) (by go_simp) ?_
  refine eq_field (by decide) (by go_simp; rfl) (by go_simp; rfl) (by go_simp) ?_
  exact eq_field (by decide) (by go_simp; rfl) (by go_simp; rfl) (by go_simp; exact strEq _ _) eq_done

theorem goodObject_goto (o : Obj') (h : o.id < 2 ∨ 1048575 < o.id ∨ (chunksB (-1) o.cs && decide ((o.cs.length : Int) ≤ 65536)) = false) : objB o = false := by
  unfold objB
  rw [Bool.eq_false_iff]
  simp only [ne_eq, Bool.and_eq_true, decide_eq_true_eq]
  rintro ⟨⟨⟨h1, h2, h3⟩, h4⟩, _⟩
  rcases h with h | h | h
  · omega
  · omega
  · rw [h4, Bool.true_and] at h
    have := of_decide_eq_false h
    omega
theorem goodObject_rest (o : Obj') (h1 : ¬ o.id < 2) (h2 : ¬ 1048575 < o.id) (h3 : (chunksB (-1) o.cs && decide ((o.cs.length : Int) ≤ 65536)) = true) : objB o = (if o.head then decide (checkL o.nd = 0 ∧ o.nd.shadow = 0) && placeB o.pb o.pp else decide (o.nd = Nod.zero ∧ o.pb = 0 ∧ o.pp = 0)) := by
  simp only [Bool.and_eq_true, decide_eq_true_eq] at h3
  unfold objB
  rw [h3.1, decide_eq_true (show 2 ≤ o.id ∧ o.id ≤ 1048575 ∧ o.cs.length ≤ 65536 by omega)]
  rfl


set_option maxHeartbeats 6400000 in
set_option maxRecDepth 100000 in
theorem goodObject_any (o : Obj') (A : Option Addr) (c : Nat) (w : World) (hw : Ok w) (hC : CRow w A o.cs) (hcl : o.cs.length ≤ c) (hn : o.cs.length ≤ 1099511627776) (hnd : o.nd.wf) (hnm : o.nd.name.size ≤ 1073741824) :
    Calls Tryd.prog 35 #[.agg #[.int .i64 o.id, .bool o.head, .int .i64 o.nd.ty, .int .i64 o.nd.par, .string o.nd.name, .int .i64 o.nd.size, .int .i64 o.nd.mode, .int .u64 o.nd.stamp, .int .i64 o.nd.shadow, .string o.nd.tgt, .int .i64 o.pb, .int .i64 o.pp, .slice A o.cs.length c]] w fun e w' => e = .returned (.bool (objB o)) ∧ Fr w w' := by
  have hF := goodObject_goto o
  have hT := goodObject_rest o
  obtain ⟨id, head, nd, pb, pp, cs⟩ := o
  dsimp only at hC hcl hn hnd hnm hF hT ⊢
  obtain ⟨w1, g, hg, hw1, f, hz1, H⟩ := boxedN hw #[.int .i64 id, .bool head, .int .i64 nd.ty, .int .i64 nd.par, .string nd.name, .int .i64 nd.size, .int .i64 nd.mode, .int .u64 nd.stamp, .int .i64 nd.shadow, .string nd.tgt, .int .i64 pb, .int .i64 pp, .slice A cs.length c] 53
  obtain ⟨c0, c1, c2, c3, c4, c5, c6, c7, c8, c9, c10, c11, c12⟩ := blk13 H
  by_cases h1 : id < 2
  · have HR := Lib.hid (hF (.inl h1))
    clear hF hT
    go_enter Tryd.func35, Tryd.ntmps35
    go_wp2_with (first
      | (go_at_call 49; refine (goodChunks_any A c cs _ f.ok (hC.fr f) hcl hn).mono ?_; rw [HG.out]; rintro e wx ⟨rfl, q⟩; replace H := q.heap H; replace f := f.trans q; clear q; obtain ⟨c0, c1, c2, c3, c4, c5, c6, c7, c8, c9, c10, c11, c12⟩ := blk13 H)
      | (go_at_call 50; refine (check_any nd hnd hnm _ f.ok).mono ?_; rw [HK.out]; rintro e wx ⟨rfl, q⟩; replace H := q.heap H; replace f := f.trans q; clear q; obtain ⟨c0, c1, c2, c3, c4, c5, c6, c7, c8, c9, c10, c11, c12⟩ := blk13 H)
      | (go_at_call 51; refine (goodPlace_any pb pp _ f.ok).mono ?_; rintro e wx ⟨rfl, q⟩; replace H := q.heap H; replace f := f.trans q; clear q; obtain ⟨c0, c1, c2, c3, c4, c5, c6, c7, c8, c9, c10, c11, c12⟩ := blk13 H))
    go_ret
    exact ⟨by rw [HR.out]; rfl, f⟩
  by_cases h2 : 1048575 < id
  · have HR := Lib.hid (hF (.inr (.inl h2)))
    clear hF hT
    go_enter Tryd.func35, Tryd.ntmps35
    go_wp2_with (first
      | (go_at_call 49; refine (goodChunks_any A c cs _ f.ok (hC.fr f) hcl hn).mono ?_; rw [HG.out]; rintro e wx ⟨rfl, q⟩; replace H := q.heap H; replace f := f.trans q; clear q; obtain ⟨c0, c1, c2, c3, c4, c5, c6, c7, c8, c9, c10, c11, c12⟩ := blk13 H)
      | (go_at_call 50; refine (check_any nd hnd hnm _ f.ok).mono ?_; rw [HK.out]; rintro e wx ⟨rfl, q⟩; replace H := q.heap H; replace f := f.trans q; clear q; obtain ⟨c0, c1, c2, c3, c4, c5, c6, c7, c8, c9, c10, c11, c12⟩ := blk13 H)
      | (go_at_call 51; refine (goodPlace_any pb pp _ f.ok).mono ?_; rintro e wx ⟨rfl, q⟩; replace H := q.heap H; replace f := f.trans q; clear q; obtain ⟨c0, c1, c2, c3, c4, c5, c6, c7, c8, c9, c10, c11, c12⟩ := blk13 H))
    go_ret
    exact ⟨by rw [HR.out]; rfl, f⟩
  cases hg : (chunksB (-1) cs && decide ((cs.length : Int) ≤ 65536)) with
  | false =>
    have HR := Lib.hid (hF (.inr (.inr hg)))
    have HG := Lib.hid hg
    clear hF hT hg
    go_enter Tryd.func35, Tryd.ntmps35
    go_wp2_with (first
      | (go_at_call 49; refine (goodChunks_any A c cs _ f.ok (hC.fr f) hcl hn).mono ?_; rw [HG.out]; rintro e wx ⟨rfl, q⟩; replace H := q.heap H; replace f := f.trans q; clear q; obtain ⟨c0, c1, c2, c3, c4, c5, c6, c7, c8, c9, c10, c11, c12⟩ := blk13 H)
      | (go_at_call 50; refine (check_any nd hnd hnm _ f.ok).mono ?_; rw [HK.out]; rintro e wx ⟨rfl, q⟩; replace H := q.heap H; replace f := f.trans q; clear q; obtain ⟨c0, c1, c2, c3, c4, c5, c6, c7, c8, c9, c10, c11, c12⟩ := blk13 H)
      | (go_at_call 51; refine (goodPlace_any pb pp _ f.ok).mono ?_; rintro e wx ⟨rfl, q⟩; replace H := q.heap H; replace f := f.trans q; clear q; obtain ⟨c0, c1, c2, c3, c4, c5, c6, c7, c8, c9, c10, c11, c12⟩ := blk13 H))
    go_ret
    exact ⟨by rw [HR.out]; rfl, f⟩
  | true =>
    have HT := Lib.hid (hT h1 h2 hg)
    have HG := Lib.hid hg
    clear hF hT hg
    cases head
    · have hE : ∀ W, (Op.equalIn 10000 48 (nodV nd) (nodV Nod.zero)).run Tryd.prog W = .ok (decide (nd = Nod.zero)) W := fun W => eqNode 9998 W nd Nod.zero
      have hE2 : ∀ W, (Op.equalIn 10000 50 (.agg #[.int .i64 pb, .int .i64 pp]) (.agg #[.int .i64 0, .int .i64 0])).run Tryd.prog W = .ok (pb == 0 && (pp == 0 && true)) W := fun W => eqPlace 9998 W pb 0 pp 0
      unfold nodV Nod.zero at hE
      cases hz : decide (nd = (⟨0, 0, ⟨#[]⟩, 0, 0, 0, 0, ⟨#[]⟩⟩ : Nod)) with
      | false =>
        have hz' : ¬ nd = Nod.zero := of_decide_eq_false hz
        have HR := Lib.hid (HT.out.trans (decide_eq_false (fun h => hz' h.1)))
        rw [hz] at hE
        clear hz hz' HT
        go_enter Tryd.func35, Tryd.ntmps35
        go_wp2_with (first
          | (go_at_call 49; refine (goodChunks_any A c cs _ f.ok (hC.fr f) hcl hn).mono ?_; rw [HG.out]; rintro e wx ⟨rfl, q⟩; replace H := q.heap H; replace f := f.trans q; clear q; obtain ⟨c0, c1, c2, c3, c4, c5, c6, c7, c8, c9, c10, c11, c12⟩ := blk13 H)
          | (go_at_call 50; refine (check_any nd hnd hnm _ f.ok).mono ?_; rw [HK.out]; rintro e wx ⟨rfl, q⟩; replace H := q.heap H; replace f := f.trans q; clear q; obtain ⟨c0, c1, c2, c3, c4, c5, c6, c7, c8, c9, c10, c11, c12⟩ := blk13 H)
          | (go_at_call 51; refine (goodPlace_any pb pp _ f.ok).mono ?_; rintro e wx ⟨rfl, q⟩; replace H := q.heap H; replace f := f.trans q; clear q; obtain ⟨c0, c1, c2, c3, c4, c5, c6, c7, c8, c9, c10, c11, c12⟩ := blk13 H))
        go_ret
        exact ⟨by rw [HR.out]; rfl, f⟩
      | true =>
        have hz' : nd = Nod.zero := of_decide_eq_true hz
        rw [hz] at hE
        cases hp : (pb == 0 && (pp == 0 && true)) with
        | false =>
          have HR := Lib.hid (HT.out.trans (decide_eq_false (fun h => by rw [h.2.1, h.2.2] at hp; cases hp)))
          rw [hp] at hE2
          clear hz hz' HT hp
          go_enter Tryd.func35, Tryd.ntmps35
          go_wp2_with (first
            | (go_at_call 49; refine (goodChunks_any A c cs _ f.ok (hC.fr f) hcl hn).mono ?_; rw [HG.out]; rintro e wx ⟨rfl, q⟩; replace H := q.heap H; replace f := f.trans q; clear q; obtain ⟨c0, c1, c2, c3, c4, c5, c6, c7, c8, c9, c10, c11, c12⟩ := blk13 H)
            | (go_at_call 50; refine (check_any nd hnd hnm _ f.ok).mono ?_; rw [HK.out]; rintro e wx ⟨rfl, q⟩; replace H := q.heap H; replace f := f.trans q; clear q; obtain ⟨c0, c1, c2, c3, c4, c5, c6, c7, c8, c9, c10, c11, c12⟩ := blk13 H)
            | (go_at_call 51; refine (goodPlace_any pb pp _ f.ok).mono ?_; rintro e wx ⟨rfl, q⟩; replace H := q.heap H; replace f := f.trans q; clear q; obtain ⟨c0, c1, c2, c3, c4, c5, c6, c7, c8, c9, c10, c11, c12⟩ := blk13 H))
          go_ret
          exact ⟨by rw [HR.out]; rfl, f⟩
        | true =>
          have hp' : pb = 0 ∧ pp = 0 := by simpa using hp
          have HR := Lib.hid (HT.out.trans (decide_eq_true ⟨hz', hp'.1, hp'.2⟩))
          rw [hp] at hE2
          clear hz hz' HT hp hp'
          go_enter Tryd.func35, Tryd.ntmps35
          go_wp2_with (first
            | (go_at_call 49; refine (goodChunks_any A c cs _ f.ok (hC.fr f) hcl hn).mono ?_; rw [HG.out]; rintro e wx ⟨rfl, q⟩; replace H := q.heap H; replace f := f.trans q; clear q; obtain ⟨c0, c1, c2, c3, c4, c5, c6, c7, c8, c9, c10, c11, c12⟩ := blk13 H)
            | (go_at_call 50; refine (check_any nd hnd hnm _ f.ok).mono ?_; rw [HK.out]; rintro e wx ⟨rfl, q⟩; replace H := q.heap H; replace f := f.trans q; clear q; obtain ⟨c0, c1, c2, c3, c4, c5, c6, c7, c8, c9, c10, c11, c12⟩ := blk13 H)
            | (go_at_call 51; refine (goodPlace_any pb pp _ f.ok).mono ?_; rintro e wx ⟨rfl, q⟩; replace H := q.heap H; replace f := f.trans q; clear q; obtain ⟨c0, c1, c2, c3, c4, c5, c6, c7, c8, c9, c10, c11, c12⟩ := blk13 H))
          go_ret
          exact ⟨by rw [HR.out]; rfl, f⟩
    · by_cases hk : checkL nd = 0
      case neg =>
        have HR := Lib.hid (HT.out.trans (show (decide (checkL nd = 0 ∧ nd.shadow = 0) && placeB pb pp) = false by rw [decide_eq_false (fun h => hk h.1)]; rfl))
        obtain ⟨k, hkk⟩ : ∃ k, checkL nd = k := ⟨_, rfl⟩
        have HK := Lib.hid hkk
        have hb : (k == 0) = false := by rw [← hkk]; simpa using hk
        clear HT hk hkk
        go_enter Tryd.func35, Tryd.ntmps35
        go_wp2_with (first
          | (go_at_call 49; refine (goodChunks_any A c cs _ f.ok (hC.fr f) hcl hn).mono ?_; rw [HG.out]; rintro e wx ⟨rfl, q⟩; replace H := q.heap H; replace f := f.trans q; clear q; obtain ⟨c0, c1, c2, c3, c4, c5, c6, c7, c8, c9, c10, c11, c12⟩ := blk13 H)
          | (go_at_call 50; refine (check_any nd hnd hnm _ f.ok).mono ?_; rw [HK.out]; rintro e wx ⟨rfl, q⟩; replace H := q.heap H; replace f := f.trans q; clear q; obtain ⟨c0, c1, c2, c3, c4, c5, c6, c7, c8, c9, c10, c11, c12⟩ := blk13 H)
          | (go_at_call 51; refine (goodPlace_any pb pp _ f.ok).mono ?_; rintro e wx ⟨rfl, q⟩; replace H := q.heap H; replace f := f.trans q; clear q; obtain ⟨c0, c1, c2, c3, c4, c5, c6, c7, c8, c9, c10, c11, c12⟩ := blk13 H))
        go_ret
        exact ⟨by rw [HR.out]; rfl, f⟩
      have HK := Lib.hid hk
      by_cases hs : nd.shadow = 0
      case neg =>
        have HR := Lib.hid (HT.out.trans (show (decide (checkL nd = 0 ∧ nd.shadow = 0) && placeB pb pp) = false by rw [decide_eq_false (fun h => hs h.2)]; rfl))
        have hb : (nd.shadow == 0) = false := by simpa using hs
        clear HT hk
        go_enter Tryd.func35, Tryd.ntmps35
        go_wp2_with (first
          | (go_at_call 49; refine (goodChunks_any A c cs _ f.ok (hC.fr f) hcl hn).mono ?_; rw [HG.out]; rintro e wx ⟨rfl, q⟩; replace H := q.heap H; replace f := f.trans q; clear q; obtain ⟨c0, c1, c2, c3, c4, c5, c6, c7, c8, c9, c10, c11, c12⟩ := blk13 H)
          | (go_at_call 50; refine (check_any nd hnd hnm _ f.ok).mono ?_; rw [HK.out]; rintro e wx ⟨rfl, q⟩; replace H := q.heap H; replace f := f.trans q; clear q; obtain ⟨c0, c1, c2, c3, c4, c5, c6, c7, c8, c9, c10, c11, c12⟩ := blk13 H)
          | (go_at_call 51; refine (goodPlace_any pb pp _ f.ok).mono ?_; rintro e wx ⟨rfl, q⟩; replace H := q.heap H; replace f := f.trans q; clear q; obtain ⟨c0, c1, c2, c3, c4, c5, c6, c7, c8, c9, c10, c11, c12⟩ := blk13 H))
        go_ret
        exact ⟨by rw [HR.out]; rfl, f⟩
      have HR := Lib.hid (HT.out.trans (show (decide (checkL nd = 0 ∧ nd.shadow = 0) && placeB pb pp) = placeB pb pp by rw [decide_eq_true ⟨hk, hs⟩]; rfl))
      have hb : (nd.shadow == 0) = true := by simpa using hs
      clear HT hk hs
      go_enter Tryd.func35, Tryd.ntmps35
      go_wp2_with (first
        | (go_at_call 49; refine (goodChunks_any A c cs _ f.ok (hC.fr f) hcl hn).mono ?_; rw [HG.out]; rintro e wx ⟨rfl, q⟩; replace H := q.heap H; replace f := f.trans q; clear q; obtain ⟨c0, c1, c2, c3, c4, c5, c6, c7, c8, c9, c10, c11, c12⟩ := blk13 H)
        | (go_at_call 50; refine (check_any nd hnd hnm _ f.ok).mono ?_; rw [HK.out]; rintro e wx ⟨rfl, q⟩; replace H := q.heap H; replace f := f.trans q; clear q; obtain ⟨c0, c1, c2, c3, c4, c5, c6, c7, c8, c9, c10, c11, c12⟩ := blk13 H)
        | (go_at_call 51; refine (goodPlace_any pb pp _ f.ok).mono ?_; rintro e wx ⟨rfl, q⟩; replace H := q.heap H; replace f := f.trans q; clear q; obtain ⟨c0, c1, c2, c3, c4, c5, c6, c7, c8, c9, c10, c11, c12⟩ := blk13 H))
      go_ret
      exact ⟨by rw [HR.out]; rfl, f⟩
end Go.Proofs.YtefkklgelmbaiaaDoor
/- good (the program): which states may be packed. -/
set_option linter.unusedSimpArgs false
set_option linter.unusedVariables false
namespace Go.Proofs.YtefkklgelmbaiaaDoor
open Go.RowKit Go.Proofs

theorem drop_cons {α : Type} (l : List α) (i : Nat) (h : i < l.length) : l.drop i = l[i] :: l.drop (i + 1) := List.drop_eq_getElem_cons h
theorem may_goto (s : St) (h : ¬ (s.floor ≤ 281474976710655 ∧ s.next ≤ 281474976710656 ∧ (s.bs.length : Int) ≤ 4096 ∧ -1 ≤ s.cur ∧ s.cur < s.bs.length ∧ -1 ≤ s.last ∧ s.last < s.bs.length ∧ (s.os.length : Int) ≤ 1048575)) : mayB s = false := by
  unfold mayB
  rw [decide_eq_false h]
  rfl
theorem may_rest (s : St) (h : s.floor ≤ 281474976710655 ∧ s.next ≤ 281474976710656 ∧ (s.bs.length : Int) ≤ 4096 ∧ -1 ≤ s.cur ∧ s.cur < s.bs.length ∧ -1 ≤ s.last ∧ s.last < s.bs.length ∧ (s.os.length : Int) ≤ 1048575) : mayB s = ((s.bs.drop 0).all blockB && objsB 0 (s.os.drop 0)) := by
  unfold mayB
  rw [decide_eq_true h]
  rfl
theorem all_step {bs : List Blk} {r : Bool} {i : Nat} (h : i < bs.length) : ((bs.drop i).all blockB && r) = (blockB bs[i] && ((bs.drop (i + 1)).all blockB && r)) := by
  rw [drop_cons bs i h, List.all_cons, Bool.and_assoc]
theorem objs_step {os : List Obj'} {last : Int} {i : Nat} (h : i < os.length) : objsB last (os.drop i) = (decide (last < os[i].id) && objB os[i] && objsB os[i].id (os.drop (i + 1))) := by
  rw [drop_cons os i h]
  rfl


set_option maxHeartbeats 12800000 in
set_option maxRecDepth 100000 in
theorem good_any (s : St) (A1 : Option Addr) (c1 : Nat) (A2 : Option Addr) (c2 : Nat) (al : Al) (w : World) (hw : Ok w) (hB : BRow w A1 s.bs) (hO : ORow w A2 al s.os) (hwf : s.wf) (hnm : ∀ o ∈ s.os, o.nd.name.size ≤ 1073741824) :
    Calls Tryd.prog 19 #[.agg #[.int .u64 s.floor, .int .u64 s.next, .int .i64 s.cur, .int .i64 s.last, .slice A1 s.bs.length c1, .slice A2 s.os.length c2]] w fun e w' => e = .returned (.bool (mayB s)) ∧ Fr w w' := by
  have hF := may_goto s
  have hT := may_rest s
  obtain ⟨floor, next, cur, last, bs, os⟩ := s
  obtain ⟨_, _, _, _, _, hows, hbl, hol⟩ := hwf
  dsimp only at hB hO hows hbl hol hnm hF hT ⊢
  obtain ⟨w1, g, hg, hw1, f, hz1, H⟩ := boxedN hw #[.int .u64 floor, .int .u64 next, .int .i64 cur, .int .i64 last, .slice A1 bs.length c1, .slice A2 os.length c2] 26
  obtain ⟨x0, x1, x2, x3, x4, x5⟩ := blk6 H
  by_cases h1 : 281474976710655 < floor
  · have HR := Lib.hid (hF (by omega))
    clear hF hT
    go_enter Tryd.func19, Tryd.ntmps19
    go_wp2
    go_ret
    exact ⟨by rw [HR.out]; rfl, f⟩
  by_cases h2 : 281474976710656 < next
  · have HR := Lib.hid (hF (by omega))
    clear hF hT
    go_enter Tryd.func19, Tryd.ntmps19
    go_wp2
    go_ret
    exact ⟨by rw [HR.out]; rfl, f⟩
  by_cases h3 : (4096 : Int) < (bs.length : Int)
  · have HR := Lib.hid (hF (by omega))
    clear hF hT
    go_enter Tryd.func19, Tryd.ntmps19
    go_wp2
    go_ret
    exact ⟨by rw [HR.out]; rfl, f⟩
  by_cases h4 : (1048575 : Int) < (os.length : Int)
  · have HR := Lib.hid (hF (by omega))
    clear hF hT
    go_enter Tryd.func19, Tryd.ntmps19
    go_wp2
    go_ret
    exact ⟨by rw [HR.out]; rfl, f⟩
  by_cases h5 : cur < -1
  · have HR := Lib.hid (hF (by omega))
    clear hF hT
    go_enter Tryd.func19, Tryd.ntmps19
    go_wp2
    go_ret
    exact ⟨by rw [HR.out]; rfl, f⟩
  by_cases h6 : (bs.length : Int) ≤ cur
  · have HR := Lib.hid (hF (by omega))
    clear hF hT
    go_enter Tryd.func19, Tryd.ntmps19
    go_wp2
    go_ret
    exact ⟨by rw [HR.out]; rfl, f⟩
  by_cases h7 : last < -1
  · have HR := Lib.hid (hF (by omega))
    clear hF hT
    go_enter Tryd.func19, Tryd.ntmps19
    go_wp2
    go_ret
    exact ⟨by rw [HR.out]; rfl, f⟩
  by_cases h8 : (bs.length : Int) ≤ last
  · have HR := Lib.hid (hF (by omega))
    clear hF hT
    go_enter Tryd.func19, Tryd.ntmps19
    go_wp2
    go_ret
    exact ⟨by rw [HR.out]; rfl, f⟩
  have HR := Lib.hid (hT (by omega))
  clear hF hT
  go_enter Tryd.func19, Tryd.ntmps19
  go_wp2
  go_loopg [53] bs.length (fun k v53 wc => ∃ (i : Nat), v53 = .int .i64 (i : Int) ∧ k + i = bs.length ∧ Hid (mayB ⟨floor, next, cur, last, bs, os⟩ = ((bs.drop i).all blockB && objsB 0 (os.drop 0))) ∧ Hid (Fr w wc) ∧ Hid (wc.heap[g]? = some (.cells #[.int .u64 floor, .int .u64 next, .int .i64 cur, .int .i64 last, .slice A1 bs.length c1, .slice A2 os.length c2] 26 (0, 0))))
  case atStart => exact ⟨0, rfl, by omega, HR, Lib.hid f, Lib.hid H⟩
  case round =>
    clear HR f H x0 x1 x2 x3 x4 x5
    obtain ⟨i, rfl, hk, HR, HF, HH⟩ := hrel
    have f := HF.out
    have H := HH.out
    clear HF HH
    obtain ⟨x0, x1, x2, x3, x4, x5⟩ := blk6 H
    cases gk with
    | zero =>
      have d4 : decide ((i : Int) < (bs.length : Int)) = false := decide_eq_false (by omega)
      obtain rfl : i = bs.length := by omega
      replace HR : Hid (mayB ⟨floor, next, cur, last, bs, os⟩ = objsB 0 (os.drop 0)) := Lib.hid (by rw [HR.out, List.drop_length]; rfl)
      go_wp2
      go_loopg [64, 6] os.length (fun k v64 v6 wc => ∃ (i : Nat) (last' : Int), v64 = .int .i64 (i : Int) ∧ v6 = .int .i64 last' ∧ k + i = os.length ∧ Hid (mayB ⟨floor, next, cur, last, bs, os⟩ = objsB last' (os.drop i)) ∧ Hid (Fr w wc))
      case atStart => exact ⟨0, 0, rfl, rfl, by omega, HR, Lib.hid f⟩
      case round =>
        clear HR f H x0 x1 x2 x3 x4 x5
        obtain ⟨i, last', rfl, rfl, hk, HR, HF⟩ := hrel
        have f := HF.out
        clear HF
        cases gk with
        | zero =>
          have d5 : decide ((i : Int) < (os.length : Int)) = false := decide_eq_false (by omega)
          obtain rfl : i = os.length := by omega
          replace HR : Hid (mayB ⟨floor, next, cur, last, bs, os⟩ = true) := Lib.hid (by rw [HR.out, List.drop_length]; rfl)
          go_wp2
          go_ret
          exact ⟨by rw [HR.out]; rfl, f⟩
        | succ k =>
          have hi : i < os.length := by omega
          have d5 : decide ((i : Int) < (os.length : Int)) = true := decide_eq_true (by omega)
          obtain ⟨gO, oO, hA, y0, y1, y2, y3, y4, y5, y6, y7, y8, y9, y10, y11, y12, hCc, hcl⟩ := (hO.fr f).get hi
          have hmem := List.getElem_mem hi
          have hon := hnm _ hmem
          obtain ⟨_, hond, _, _, _, hocl⟩ := hows _ hmem
          replace HR := Lib.hid (HR.out.trans (objs_step hi))
          obtain ⟨ob, hob⟩ : ∃ ob, os[i] = ob := ⟨_, rfl⟩
          rw [hob] at y0 y1 y2 y3 y4 y5 y6 y7 y8 y9 y10 y11 y12 hCc hcl hon hond hocl HR
          clear hob hmem
          subst hA
          have HC := Lib.hid hCc
          have HN := Lib.hid hond
          clear hCc hond
          obtain ⟨w8, g8, hg8, hw8, f8, hz8, H8⟩ := boxedN f.ok #[.int .i64 ob.id, .bool ob.head, .int .i64 ob.nd.ty, .int .i64 ob.nd.par, .string ob.nd.name, .int .i64 ob.nd.size, .int .i64 ob.nd.mode, .int .u64 ob.nd.stamp, .int .i64 ob.nd.shadow, .string ob.nd.tgt, .int .i64 ob.pb, .int .i64 ob.pp, .slice (al i).1 ob.cs.length (al i).2] 53
          replace HC := Lib.hid (HC.out.fr f8)
          replace f := f.trans f8
          obtain ⟨e0, e1, e2, e3, e4, e5, e6, e7, e8, e9, e10, e11, e12⟩ := blk13 H8
          clear f8
          by_cases hlt : ob.id ≤ last'
          · have HR2 := Lib.hid (HR.out.trans (by rw [decide_eq_false (show ¬ last' < ob.id by omega)]; rfl : _ = false))
            clear HR
            go_wp2
            go_ret
            exact ⟨by rw [HR2.out]; rfl, f⟩
          · cases hgo : objB ob with
            | false =>
              have HR2 := Lib.hid (HR.out.trans (by rw [hgo, Bool.and_false]; rfl : _ = false))
              have HG := Lib.hid hgo
              clear HR hgo
              go_wp2_with (go_at_call 35; refine (goodObject_any ob (al i).1 (al i).2 _ f.ok HC.out hcl hocl HN.out hon).mono ?_; rw [HG.out]; rintro e wx ⟨rfl, q⟩; replace f := f.trans q; clear q)
              go_ret
              exact ⟨by rw [HR2.out]; rfl, f⟩
            | true =>
              have HR2 := Lib.hid (HR.out.trans (by rw [hgo, decide_eq_true (show last' < ob.id by omega)]; rfl : _ = objsB ob.id (os.drop (i + 1))))
              have HG := Lib.hid hgo
              clear HR hgo
              go_wp2_with (go_at_call 35; refine (goodObject_any ob (al i).1 (al i).2 _ f.ok HC.out hcl hocl HN.out hon).mono ?_; rw [HG.out]; rintro e wx ⟨rfl, q⟩; replace H8 := q.heap H8; replace f := f.trans q; clear q; obtain ⟨e0, e1, e2, e3, e4, e5, e6, e7, e8, e9, e10, e11, e12⟩ := blk13 H8)
              go_roundg k
              case measure => omega
              case rel => exact ⟨i + 1, ob.id, by simp, rfl, by omega, HR2, Lib.hid f⟩
    | succ k =>
      have hi : i < bs.length := by omega
      have d4 : decide ((i : Int) < (bs.length : Int)) = true := decide_eq_true (by omega)
      obtain ⟨gC, oC, hA, y0, y1, y2, y3⟩ := (hB.fr f).get hi
      replace HR := Lib.hid (HR.out.trans (all_step hi))
      obtain ⟨b, hb⟩ : ∃ b, bs[i] = b := ⟨_, rfl⟩
      rw [hb] at y0 y1 y2 y3 HR
      clear hb
      subst hA
      obtain ⟨w8, g8, hg8, hw8, f8, hz8, H8⟩ := boxedN f.ok #[.int .i64 b.st, .int .u64 b.hd, .bool b.real, .int .i64 b.live] 45
      replace H := f8.heap H
      replace f := f.trans f8
      obtain ⟨e0, e1, e2, e3⟩ := blk4 H8
      clear f8 x0 x1 x2 x3 x4 x5
      cases hgo : blockB b with
      | false =>
        have HR2 := Lib.hid (HR.out.trans (by rw [hgo]; rfl : _ = false))
        have HG := Lib.hid hgo
        clear HR hgo
        go_wp2_with (go_at_call 34; refine (goodBlock_any b _ f.ok).mono ?_; rw [HG.out]; rintro e wx ⟨rfl, q⟩; replace f := f.trans q; clear q)
        go_ret
        exact ⟨by rw [HR2.out]; rfl, f⟩
      | true =>
        have HR2 := Lib.hid (HR.out.trans (by rw [hgo, Bool.true_and] : _ = ((bs.drop (i + 1)).all blockB && objsB 0 (os.drop 0))))
        have HG := Lib.hid hgo
        clear HR hgo
        go_wp2_with (go_at_call 34; refine (goodBlock_any b _ f.ok).mono ?_; rw [HG.out]; rintro e wx ⟨rfl, q⟩; replace H := q.heap H; replace f := f.trans q; clear q)
        go_roundg k
        case measure => omega
        case rel => exact ⟨i + 1, by simp, by omega, HR2, Lib.hid f, Lib.hid H⟩
end Go.Proofs.YtefkklgelmbaiaaDoor
set_option linter.unusedSimpArgs false
set_option linter.unusedVariables false
namespace Go.Proofs.YtefkklgelmbaiaaDoor
open Go.RowKit Go.Proofs

theorem blockL_length (b : Blk) : (blockL b).length = 10 := by unfold blockL; simp only [List.length_append, le_length]
theorem objL_le {o : Obj'} (h : objB o = true) : (objL o).length ≤ 655600 := by
  unfold objB at h
  simp only [Bool.and_eq_true, decide_eq_true_eq] at h
  obtain ⟨⟨⟨_, _, hc⟩, _⟩, hh⟩ := h
  have h1 : ((o.cs.map chunkL).flatten).length = 10 * o.cs.length := by
    have := chunksL_length o.cs o.cs.length (Nat.le_refl _)
    unfold chunksL at this
    rwa [List.take_length] at this
  unfold objL
  rw [List.length_append, List.length_append, List.length_append, List.length_append, h1, le_length, le_length, le_length]
  cases hd : o.head with
  | false => simp; omega
  | true =>
    rw [hd, if_pos rfl] at hh
    simp only [Bool.and_eq_true, decide_eq_true_eq] at hh
    obtain ⟨_, _, _, _, kn, _, _, _, _, _, _, kt⟩ := check_facts hh.1.1
    rw [if_pos rfl, List.length_append, List.length_append, le_length, placeL_length, nodeL_length]
    omega
def blocksL (bs : List Blk) (i : Nat) : List Int := ((bs.take i).map blockL).flatten
theorem blocksL_succ (bs : List Blk) (i : Nat) (h : i < bs.length) : blocksL bs (i + 1) = blocksL bs i ++ blockL bs[i] := by
  unfold blocksL
  rw [List.take_succ_eq_append_getElem h, List.map_append, List.flatten_append]
  simp
theorem blocksL_length (bs : List Blk) (i : Nat) (h : i ≤ bs.length) : (blocksL bs i).length = 10 * i := by
  induction i with
  | zero => simp [blocksL]
  | succ i ih => rw [blocksL_succ bs i (by omega), List.length_append, blockL_length, ih (by omega)]; omega
def objsL (os : List Obj') (i : Nat) : List Int := ((os.take i).map objL).flatten
theorem objsL_succ (os : List Obj') (i : Nat) (h : i < os.length) : objsL os (i + 1) = objsL os i ++ objL os[i] := by
  unfold objsL
  rw [List.take_succ_eq_append_getElem h, List.map_append, List.flatten_append]
  simp
theorem objs_mem : ∀ {os : List Obj'} {last : Int}, objsB last os = true → ∀ o ∈ os, objB o = true
  | [], _, _, _, h => by cases h
  | x :: r, last, h, o, ho => by
    unfold objsB at h
    simp only [Bool.and_eq_true, decide_eq_true_eq] at h
    rcases List.mem_cons.1 ho with rfl | ho
    · exact h.1.2
    · exact objs_mem h.2 o ho
theorem objsL_le (os : List Obj') (hm : ∀ o ∈ os, objB o = true) (i : Nat) (h : i ≤ os.length) : (objsL os i).length ≤ 655600 * i := by
  induction i with
  | zero => simp [objsL]
  | succ i ih =>
    have h1 := objL_le (hm os[i] (List.getElem_mem (by omega)))
    rw [objsL_succ os i (by omega), List.length_append]
    have := ih (by omega)
    omega
theorem block_facts {b : Blk} (h : blockB b = true) : 0 ≤ b.st ∧ b.st ≤ 6 ∧ b.hd ≤ 281474976710655 ∧ 0 ≤ b.live ∧ b.live ≤ 256 := of_decide_eq_true h
def resE (s : St) : Int := if mayB s = true then 0 else 140
def resL (s : St) : List Int := if mayB s = true then packL s else []

set_option maxHeartbeats 12800000 in
set_option maxRecDepth 100000 in
theorem pPack_go (Post : Ending → World → Prop) (s : St) (A1 : Option Addr) (c1 : Nat) (A2 : Option Addr) (c2 : Nat) (al : Al) (w : World) (hw : Ok w) (hB : BRow w A1 s.bs) (hO : ORow w A2 al s.os) (hwf : s.wf) (hnm : ∀ o ∈ s.os, o.nd.name.size ≤ 1073741824)
    (HPost : Hid (∀ w' v, Fr w w' → OwnB w' w.heap.size v (resL s) → Post (.returned (.tuple #[v, .int .i64 (resE s)])) w')) :
    Calls Tryd.prog 7 #[.agg #[.int .u64 s.floor, .int .u64 s.next, .int .i64 s.cur, .int .i64 s.last, .slice A1 s.bs.length c1, .slice A2 s.os.length c2]] w Post := by
  have HGd := Lib.hid (fun W (f : Fr w W) => good_any s A1 c1 A2 c2 al W f.ok (hB.fr f) (hO.fr f) hwf hnm)
  obtain ⟨w1, g, hg, hw1, f, hz1, H⟩ := boxedN hw #[.int .u64 s.floor, .int .u64 s.next, .int .i64 s.cur, .int .i64 s.last, .slice A1 s.bs.length c1, .slice A2 s.os.length c2] 26
  obtain ⟨x0, x1, x2, x3, x4, x5⟩ := blk6 H
  cases hm : mayB s with
  | false =>
    have HM := Lib.hid hm
    have hr1 : resE s = 140 := by unfold resE; rw [hm]; rfl
    have hr2 : resL s = [] := by unfold resL; rw [hm]; rfl
    rw [hr1, hr2] at HPost
    clear hm hr1 hr2
    go_enter Tryd.func7, Tryd.ntmps7
    go_wp2_with (go_at_call 19; refine (HGd.out _ f).mono ?_; rw [HM.out]; rintro e wx ⟨rfl, q⟩; replace f := f.trans q; clear q)
    exact HPost.out _ _ f (.nil _ _)
  | true =>
    have HM := Lib.hid hm
    have hr1 : resE s = 0 := by unfold resE; rw [hm]; rfl
    have hr2 : resL s = packL s := by unfold resL; rw [hm]; rfl
    rw [hr1, hr2] at HPost
    unfold mayB at hm
    simp only [Bool.and_eq_true, decide_eq_true_eq] at hm
    obtain ⟨⟨⟨k1, k2, k3, k4, k5, k6, k7, k8⟩, hbs⟩, hos⟩ := hm
    have HBS := Lib.hid (fun b hb => block_facts (List.all_eq_true.1 hbs b hb))
    have HOS := Lib.hid (objs_mem hos)
    have HOL := Lib.hid (objsL_le s.os (objs_mem hos))
    clear hbs hos hr1 hr2
    obtain ⟨u1, u2, _, _, hbw, how, _, _⟩ := hwf
    obtain ⟨u1, u1'⟩ := u1
    obtain ⟨u2, u2'⟩ := u2
    have HBW := Lib.hid hbw
    have HOW := Lib.hid how
    clear hbw how
    obtain ⟨floor, next, cur, last, bs, os⟩ := s
    dsimp only at *
    have HL : Hid (packL ⟨floor, next, cur, last, bs, os⟩ = le floor 8 ++ le next 8 ++ le (cur + 1) 4 ++ le (last + 1) 4 ++ le (bs.length : Int) 4 ++ blocksL bs bs.length ++ le (os.length : Int) 4 ++ objsL os os.length) := Lib.hid (by unfold packL headL blocksL objsL; simp only [List.take_length])
    go_enter Tryd.func7, Tryd.ntmps7
    go_wp2_with (go_at_call 19; refine (HGd.out _ f).mono ?_; rw [HM.out]; rintro e wx ⟨rfl, q⟩; replace H := q.heap H; replace f := f.trans q; clear q; obtain ⟨w3, gw, hgw, hw3, f3, hz3, HW⟩ := boxedN f.ok #[.slice none 0 0] 62; replace H := f3.heap H; have hszw := f.size; replace f := f.trans f3; clear f3; obtain ⟨x0, x1, x2, x3, x4, x5⟩ := blk6 H)
    have W : Wr w3 w.heap.size gw (.slice none 0 0) [] := ⟨HW, .nil _ _, by rw [← hgw]; exact hszw⟩
    have hB2 := f.size
    have wa1 : IntKind.i64.wrap (cur + 1) = cur + 1 := IntWalk.i64_in _ ⟨by omega, by omega⟩
    have wa2 : IntKind.i64.wrap (last + 1) = last + 1 := IntWalk.i64_in _ ⟨by omega, by omega⟩
    have wa3 : IntKind.u64.wrap (cur + 1) = cur + 1 := u64_in ⟨by omega, by omega⟩
    have wa4 : IntKind.u64.wrap (last + 1) = last + 1 := u64_in ⟨by omega, by omega⟩
    clear hw3 hgw hszw HW hw1 hg
    have tok0 : True := trivial
    go_region_held3 (fun w' => w'.cell? ⟨g, 0, none⟩ = some (.int .u64 floor) ∧ w'.cell? ⟨g, 1, none⟩ = some (.int .u64 next) ∧ w'.cell? ⟨g, 2, none⟩ = some (.int .i64 cur) ∧ w'.cell? ⟨g, 3, none⟩ = some (.int .i64 last)) (first | go_keep | exact ⟨x0, x1, x2, x3⟩)
      (first
        | (go_at_call 20; have _t := tok0; refine (num_any _ gw _ _ 8 8 floor rfl _ W.drew hB2 (by simp only [List.length_append, le_length, List.length_nil]; omega) (by omega) (by omega) (by omega) (by omega)).mono ?_; rintro e wa ⟨rfl, v1, W2, q⟩; replace q := q.undrew; replace f := W.fr f hw (Nat.le_refl _) q; replace H := W.keep q H (by decide) (by decide); clear W q; have W := W2; clear W2; have hB2 := f.size; obtain ⟨x0, x1, x2, x3, x4, x5⟩ := blk6 H; clear tok0; have tok1 : True := trivial)
        | (go_at_call 20; have _t := tok1; refine (num_any _ gw v1 _ 8 8 next rfl _ W hB2 (by simp only [List.length_append, le_length, List.length_nil]; omega) (by omega) (by omega) (by omega) (by omega)).mono ?_; rintro e wb ⟨rfl, v2, W2, q⟩; replace f := W.fr f hw (Nat.le_refl _) q; replace H := W.keep q H (by decide) (by decide); clear W q; have W := W2; clear W2; have hB2 := f.size; obtain ⟨x0, x1, x2, x3, x4, x5⟩ := blk6 H; clear tok1; have tok2 : True := trivial)
        | (go_at_call 20; have _t := tok2; refine (num_any _ gw v2 _ 4 4 (cur + 1) rfl _ W hB2 (by simp only [List.length_append, le_length, List.length_nil]; omega) (by omega) (by omega) (by omega) (by omega)).mono ?_; rintro e wc ⟨rfl, v3, W2, q⟩; replace f := W.fr f hw (Nat.le_refl _) q; replace H := W.keep q H (by decide) (by decide); clear W q; have W := W2; clear W2; have hB2 := f.size; obtain ⟨x0, x1, x2, x3, x4, x5⟩ := blk6 H; clear tok2; have tok3 : True := trivial)
        | (go_at_call 20; have _t := tok3; refine (num_any _ gw v3 _ 4 4 (last + 1) rfl _ W hB2 (by simp only [List.length_append, le_length, List.length_nil]; omega) (by omega) (by omega) (by omega) (by omega)).mono ?_; rintro e wd ⟨rfl, v4, W2, q⟩; replace f := W.fr f hw (Nat.le_refl _) q; replace H := W.keep q H (by decide) (by decide); clear W q; have W := W2; clear W2; have hB2 := f.size; obtain ⟨x0, x1, x2, x3, x4, x5⟩ := blk6 H; clear tok3; have tok4 : True := trivial))
    clear wa1 wa2 wa3 wa4
    go_wp2_with (go_at_call 20; have _t := tok4; refine (num_any _ gw v4 _ 4 4 bs.length rfl _ W hB2 (by simp only [List.length_append, le_length, List.length_nil]; omega) (by omega) (by omega) (by omega) (by omega)).mono ?_; rintro e we ⟨rfl, v5, W2, q⟩; replace f := W.fr f hw (Nat.le_refl _) q; replace H := W.keep q H (by decide) (by decide); clear W q; have W := W2; clear W2; have hB2 := f.size; obtain ⟨x0, x1, x2, x3, x4, x5⟩ := blk6 H; clear tok4)
    obtain ⟨base, hbase⟩ : ∃ base, [] ++ le floor 8 ++ le next 8 ++ le (cur + 1) 4 ++ le (last + 1) 4 ++ le (bs.length : Int) 4 = base := ⟨_, rfl⟩
    have hbl : base.length = 28 := by rw [← hbase]; simp only [List.length_append, le_length, List.length_nil]
    rw [hbase] at W
    rw [List.nil_append] at hbase
    rw [hbase] at HL
    clear hbase
    go_loopg [40] bs.length (fun k v40 wc => ∃ (i : Nat) (vi : Value), v40 = .int .i64 (i : Int) ∧ k + i = bs.length ∧ Hid (Wr wc w.heap.size gw vi (base ++ blocksL bs i)) ∧ Hid (Fr w wc) ∧ Hid (wc.heap[g]? = some (.cells #[.int .u64 floor, .int .u64 next, .int .i64 cur, .int .i64 last, .slice A1 bs.length c1, .slice A2 os.length c2] 26 (0, 0))))
    case atStart => exact ⟨0, v5, rfl, by omega, Lib.hid (by rw [show blocksL bs 0 = [] from rfl, List.append_nil]; exact W), Lib.hid f, Lib.hid H⟩
    case round =>
      clear W f H x0 x1 x2 x3 x4 x5 hB2
      obtain ⟨i, vi, rfl, hk, HW, HF, HH⟩ := hrel
      have f := HF.out
      have H := HH.out
      have W := HW.out
      clear HF HH HW
      have hB2 := f.size
      obtain ⟨x0, x1, x2, x3, x4, x5⟩ := blk6 H
      cases gk with
      | zero =>
        have d4 : decide ((i : Int) < (bs.length : Int)) = false := decide_eq_false (by omega)
        obtain rfl : i = bs.length := by omega
        have hbb := blocksL_length bs bs.length (Nat.le_refl _)
        obtain ⟨base2, hbase2⟩ : ∃ base2, base ++ blocksL bs bs.length = base2 := ⟨_, rfl⟩
        have hbl2 : base2.length ≤ 50000 := by rw [← hbase2, List.length_append, hbl, hbb]; omega
        rw [hbase2] at W HL
        clear hbase2 hbb
        go_wp2_with (go_at_call 20; refine (num_any _ gw vi _ 4 4 os.length rfl _ W hB2 (by omega) (by omega) (by omega) (by omega) (by omega)).mono ?_; rintro e we ⟨rfl, v5, W2, q⟩; replace f := W.fr f hw (Nat.le_refl _) q; replace H := W.keep q H (by decide) (by decide); clear W q; have W := W2; clear W2; have hB2 := f.size; obtain ⟨x0, x1, x2, x3, x4, x5⟩ := blk6 H)
        obtain ⟨base3, hbase3⟩ : ∃ base3, base2 ++ le (os.length : Int) 4 = base3 := ⟨_, rfl⟩
        have hbl3 : base3.length ≤ 50004 := by rw [← hbase3, List.length_append, le_length]; omega
        rw [hbase3] at W HL
        clear hbase3 hbl hbl2
        go_loopg [69] os.length (fun k v69 wc => ∃ (i : Nat) (vi : Value), v69 = .int .i64 (i : Int) ∧ k + i = os.length ∧ Hid (Wr wc w.heap.size gw vi (base3 ++ objsL os i)) ∧ Hid (Fr w wc))
        case atStart => exact ⟨0, v5, rfl, by omega, Lib.hid (by rw [show objsL os 0 = [] from rfl, List.append_nil]; exact W), Lib.hid f⟩
        case round =>
          clear W f H x0 x1 x2 x3 x4 x5 hB2
          obtain ⟨i, vi, rfl, hk, HW, HF⟩ := hrel
          have f := HF.out
          have W := HW.out
          clear HF HW
          cases gk with
          | zero =>
            have d5 : decide ((i : Int) < (os.length : Int)) = false := decide_eq_false (by omega)
            obtain rfl : i = os.length := by omega
            rw [← HL.out] at W
            have c0 := blk1 W.cell
            go_wp2
            exact HPost.out _ _ f W.own
          | succ k =>
            have hi : i < os.length := by omega
            have d5 : decide ((i : Int) < (os.length : Int)) = true := decide_eq_true (by omega)
            obtain ⟨gO, oO, hA, y0, y1, y2, y3, y4, y5, y6, y7, y8, y9, y10, y11, y12, _, hcl⟩ := (hO.fr f).get hi
            have hmem := List.getElem_mem hi
            have hon := hnm _ hmem
            have hCw := (hO.2 i os[i] (by simp [hi])).1
            have HOB := HOS.out _ hmem
            have HOF := HOW.out _ hmem
            have hol := HOL.out i (Nat.le_of_lt hi)
            have HS := Lib.hid (objsL_succ os i hi)
            obtain ⟨ob, hob⟩ : ∃ ob, os[i] = ob := ⟨_, rfl⟩
            rw [hob] at y0 y1 y2 y3 y4 y5 y6 y7 y8 y9 y10 y11 y12 hcl hon hCw HOB HOF HS
            clear hob hmem
            subst hA
            replace hCw := Lib.hid hCw
            replace HOB := Lib.hid HOB
            replace HOF := Lib.hid HOF
            obtain ⟨w8, g8, hg8, hw8, f8, hz8, H8⟩ := boxedN f.ok #[.int .i64 ob.id, .bool ob.head, .int .i64 ob.nd.ty, .int .i64 ob.nd.par, .string ob.nd.name, .int .i64 ob.nd.size, .int .i64 ob.nd.mode, .int .u64 ob.nd.stamp, .int .i64 ob.nd.shadow, .string ob.nd.tgt, .int .i64 ob.pb, .int .i64 ob.pp, .slice (al i).1 ob.cs.length (al i).2] 53
            replace W := W.move f8
            replace f := f.trans f8
            obtain ⟨e0, e1, e2, e3, e4, e5, e6, e7, e8, e9, e10, e11, e12⟩ := blk13 H8
            clear f8
            go_wp2_with (go_at_call 22; refine (wobject_any w hw ob (al i).1 (al i).2 gw vi _ _ f W hCw.out hcl HOF.out hon HOB.out (by rw [List.length_append]; omega)).mono ?_; rintro e wa ⟨rfl, v6, W2, q⟩; replace f := W.fr f hw (Nat.le_refl _) q; clear W q)
            go_roundg k
            case measure => omega
            case rel => exact ⟨i + 1, v6, by simp, by omega, Lib.hid (by rw [HS.out, ← List.append_assoc]; exact W2), Lib.hid f⟩
      | succ k =>
        have hi : i < bs.length := by omega
        have d4 : decide ((i : Int) < (bs.length : Int)) = true := decide_eq_true (by omega)
        obtain ⟨gC, oC, hA, y0, y1, y2, y3⟩ := (hB.fr f).get hi
        obtain ⟨m0, m1, m2, m3, m4⟩ := HBS.out _ (List.getElem_mem hi)
        obtain ⟨_, ⟨m5, _⟩, _⟩ := HBW.out _ (List.getElem_mem hi)
        have HS := Lib.hid (blocksL_succ bs i hi)
        have hbb := blocksL_length bs i (Nat.le_of_lt hi)
        obtain ⟨b, hb⟩ : ∃ b, bs[i] = b := ⟨_, rfl⟩
        rw [hb] at y0 y1 y2 y3 m0 m1 m2 m3 m4 m5 HS
        clear hb
        subst hA
        obtain ⟨st, hd, real, live⟩ := b
        dsimp only at y0 y1 y2 y3 m0 m1 m2 m3 m4 m5
        obtain ⟨w8, g8, hg8, hw8, f8, hz8, H8⟩ := boxedN f.ok #[.int .i64 st, .int .u64 hd, .bool real, .int .i64 live] 45
        replace W := W.move f8
        replace H := f8.heap H
        replace f := f.trans f8
        clear f8
        replace hB2 := f.size
        obtain ⟨e0, e1, e2, e3⟩ := blk4 H8
        clear x0 x1 x2 x3 x4 x5
        have wcc : IntKind.u64.wrap st = st := u64_in ⟨by omega, by omega⟩
        have wcn : IntKind.u64.wrap live = live := u64_in ⟨by omega, by omega⟩
        have tok0 : True := trivial
        go_wp2
        clear hw8 hg8 y0 y1 y2 y3
        go_region_held3 (fun w' => w'.cell? ⟨g8, 0, none⟩ = some (.int .i64 st) ∧ w'.cell? ⟨g8, 1, none⟩ = some (.int .u64 hd) ∧ w'.cell? ⟨g8, 2, none⟩ = some (.bool real) ∧ w'.cell? ⟨g8, 3, none⟩ = some (.int .i64 live)) (first | go_keep | exact ⟨e0, e1, e2, e3⟩)
          (first
            | (go_at_call 20; have _t := tok0; refine (num_any _ gw vi _ 1 1 st rfl _ W.drew hB2 (by simp only [List.length_append, le_length]; omega) (by omega) (by omega) (by omega) (by omega)).mono ?_; rintro e wa ⟨rfl, v1, W2, q⟩; replace q := q.undrew; replace f := W.fr f hw (Nat.le_refl _) q; replace H := W.keep q H (by decide) (by decide); replace H8 := W.keep q H8 (by decide) (by decide); clear W q; have W := W2; clear W2; have hB2 := f.size; obtain ⟨e0, e1, e2, e3⟩ := blk4 H8; clear tok0; have tok1 : True := trivial)
            | (go_at_call 20; have _t := tok1; refine (num_any _ gw v1 _ 6 6 hd rfl _ W hB2 (by simp only [List.length_append, le_length]; omega) (by omega) (by omega) (by omega) (by omega)).mono ?_; rintro e wb ⟨rfl, v2, W2, q⟩; replace f := W.fr f hw (Nat.le_refl _) q; replace H := W.keep q H (by decide) (by decide); replace H8 := W.keep q H8 (by decide) (by decide); clear W q; have W := W2; clear W2; have hB2 := f.size; obtain ⟨e0, e1, e2, e3⟩ := blk4 H8; clear tok1; have tok2 : True := trivial)
            | (go_at_call 21; have _t := tok2; refine (wyes_any _ gw v2 _ real _ W hB2 (by simp only [List.length_append, le_length]; omega)).mono ?_; rintro e wc ⟨rfl, v3, W2, q⟩; replace f := W.fr f hw (Nat.le_refl _) q; replace H := W.keep q H (by decide) (by decide); replace H8 := W.keep q H8 (by decide) (by decide); clear W q; have W := W2; clear W2; have hB2 := f.size; obtain ⟨e0, e1, e2, e3⟩ := blk4 H8; clear tok2; have tok3 : True := trivial)
            | (go_at_call 20; have _t := tok3; refine (num_any _ gw v3 _ 2 2 live rfl _ W hB2 (by simp only [List.length_append, le_length]; omega) (by omega) (by omega) (by omega) (by omega)).mono ?_; rintro e wd ⟨rfl, v4, W2, q⟩; replace f := W.fr f hw (Nat.le_refl _) q; replace H := W.keep q H (by decide) (by decide); replace H8 := W.keep q H8 (by decide) (by decide); clear W q; have W := W2; clear W2; have hB2 := f.size; obtain ⟨e0, e1, e2, e3⟩ := blk4 H8; clear tok3))
        go_wp2
        go_roundg k
        case measure => omega
        case rel => exact ⟨i + 1, v4, by simp, by omega, Lib.hid (by rw [HS.out]; unfold blockL; simp only [← List.append_assoc] at W ⊢; exact W), Lib.hid f, Lib.hid H⟩
theorem pPack_any (s : St) (A1 : Option Addr) (c1 : Nat) (A2 : Option Addr) (c2 : Nat) (al : Al) (w : World) (hw : Ok w) (hB : BRow w A1 s.bs) (hO : ORow w A2 al s.os) (hwf : s.wf) (hnm : ∀ o ∈ s.os, o.nd.name.size ≤ 1073741824) :
    Calls Tryd.prog 7 #[.agg #[.int .u64 s.floor, .int .u64 s.next, .int .i64 s.cur, .int .i64 s.last, .slice A1 s.bs.length c1, .slice A2 s.os.length c2]] w fun e w' => Fr w w' ∧ ∃ v, e = .returned (.tuple #[v, .int .i64 (resE s)]) ∧ OwnB w' w.heap.size v (resL s) :=
  pPack_go _ s A1 c1 A2 c2 al w hw hB hO hwf hnm (Lib.hid fun w' v h1 h2 => ⟨h1, v, rfl, h2⟩)
end Go.Proofs.YtefkklgelmbaiaaDoor
