/- The law AuditThere, walked. It returns true. -/
import Derived.Test.YtioapjnaopnhaaaDoorReadProg3
import Derived.Test.YtioapjnaopnhaaaDoorSound
import Derived.Test.YtioapjnaopnhaaaDoorAuditShowsWalk
set_option linter.unusedSimpArgs false
set_option linter.unusedVariables false
namespace Go.Proofs.YtioapjnaopnhaaaDoor
open Go.RowKit Go.Proofs

theorem FRow.of_own {w : World} {B c : Nat} {a : Option Addr} {fs : List Fnd} (h : w.ownsRow B 29 4 (.slice a fs.length c) fs.length (frow fs)) : FRow w a fs := by
  have h0 := h
  rcases h.2 with ⟨_, h2⟩ | ⟨g, cap, cur, hv, hb, hg, _⟩
  · exact .inl (List.eq_nil_of_length_eq_zero h2)
  · injection hv with e1 e2 e3
    subst e1 e3
    refine .inr ⟨g, 0, rfl, (Array.getElem?_eq_some_iff.1 hg).1, fun i f hi => ?_⟩
    have key : ∀ j, j < 4 → ∀ u, (fcells f)[j]? = some u → w.cell? ⟨g, i * 4 + j, none⟩ = some u := fun j hj u hu => by
      have := h0.cells (g := g) rfl (i * 4 + j) u (by rw [frow_get fs i j f hi hj]; exact hu)
      rwa [Lib.add_plain, Nat.zero_add] at this
    have k0 := key 0 (by omega) _ rfl
    have k1 := key 1 (by omega) _ rfl
    have k2 := key 2 (by omega) _ rfl
    have k3 := key 3 (by omega) _ rfl
    exact ⟨by simpa using k0, by simpa using k1, by simpa using k2, by simpa using k3⟩

theorem same_self (r : Rep) (aa ab : Option Addr) (ca cb : Nat) (w : World) (hw : Ok w) (hA : FRow w aa r.fs) (hB : FRow w ab r.fs) (hn : r.fs.length ≤ 1099511627776) :
    Calls Tryd.prog 8 #[repV r aa ca, repV r ab cb] w fun e w' => e = .returned (.bool true) ∧ Fr w w' :=
  (same_any r r aa ab ca cb w hw hA hB hn).mono fun e w' ⟨he, q⟩ => ⟨by rw [he, sameR_refl], q⟩

set_option maxHeartbeats 3200000 in
set_option maxRecDepth 100000 in
theorem law_AuditThere (r : Rep) (a : Option Addr) (c : Nat) (t : List UInt8) (w : World) (hw : Ok w) (hm : More w) (hr : r.wf) (hF : FRow w a r.fs) (hn : r.fs.length ≤ 1048576) (ht : t.length ≤ 1048576) (hsz : 9 ≤ w.heap.size) :
    Calls Tryd.prog 5 #[repV r a c, .string ⟨t.toArray⟩] w fun e w' => e = .returned (.bool true) ∧ Fr w w' := by
  have hlen : (showL r).length ≤ 1073741824 := by
    have := rowsTo_le r hr r.fs.length
    rw [rowsTo_all] at this
    omega
  unfold repV
  obtain ⟨w1, g, hg, hw1, f, hz1, H⟩ := boxedN hw #[.int .u64 r.floor, .int .i64 r.counted, .int .i64 r.live, .int .i64 r.used, .int .i64 r.bad, .bool r.saved, .slice a r.fs.length c] 25
  replace hF := hF.fr f
  have m := hm.fr f
  have hsz1 := Nat.le_trans hsz f.size
  obtain ⟨c0, c1, c2', c3, c4, c5, c6⟩ := blk7 H
  go_enter Tryd.func5, Tryd.ntmps5
  go_wp2_with (first
    | (go_at_call 6; refine (progShow r a c _ f.ok hr hF (by omega)).mono ?_; rintro e wq ⟨rfl, q⟩; replace H := q.heap H; replace hF := hF.fr q; replace m := m.fr q; replace hsz1 := Nat.le_trans hsz1 q.size; replace f := f.trans q; clear q; obtain ⟨c0, c1, c2', c3, c4, c5, c6⟩ := blk7 H)
    | (go_at_call 10; refine (read_go (showL r) _ f.ok m hlen hsz1).mono ?_; rintro e wr ⟨q, he⟩; rw [read_show hr] at he; obtain ⟨a2, c2, rfl, B, hB, hown⟩ := he; replace H := q.heap H; replace hF := hF.fr q; have hF2 := FRow.of_own hown; replace m := m.fr q; replace hsz1 := Nat.le_trans hsz1 q.size; replace f := f.trans q; clear q hown; unfold repV; obtain ⟨w5, g5, hg5, hw5, f5, hz5, H5⟩ := boxedN f.ok #[.int .u64 r.floor, .int .i64 r.counted, .int .i64 r.live, .int .i64 r.used, .int .i64 r.bad, .bool r.saved, .slice a2 r.fs.length c2] 25; replace H := f5.heap H; replace hF := hF.fr f5; replace hF2 := hF2.fr f5; replace m := m.fr f5; replace hsz1 := Nat.le_trans hsz1 f5.size; replace f := f.trans f5; clear f5; obtain ⟨c0, c1, c2', c3, c4, c5, c6⟩ := blk7 H; obtain ⟨d0, d1, d2, d3, d4, d5, d6⟩ := blk7 H5))
  have cSame := fun (d : Nat) (os : Array Obj) => qfr (same_self r a2 a c2 c _ (okR f.ok d os) (hF2.fr (frR f.ok d os)) (hF.fr (frR f.ok d os)) (by omega))
  have cSound2 := fun (d : Nat) (os : Array Obj) => qfr (sound_any r a2 c2 _ (okR f.ok d os) (hF2.fr (frR f.ok d os)) (by omega))
  have cSound := fun (d : Nat) (os : Array Obj) => qfr (sound_any r a c _ (okR f.ok d os) (hF.fr (frR f.ok d os)) (by omega))
  have cRef := fun (d : Nat) (os : Array Obj) => qfr (refSound_any r a c _ (okR f.ok d os) (hF.fr (frR f.ok d os)) (by omega))
  unfold repV at cSame cSound2 cSound cRef
  replace cSame := Lib.hid cSame
  replace cSound2 := Lib.hid cSound2
  replace cSound := Lib.hid cSound
  replace cRef := Lib.hid cRef
  have r_c0 := cell_regrown c0
  have r_c1 := cell_regrown c1
  have r_c2' := cell_regrown c2'
  have r_c3 := cell_regrown c3
  have r_c4 := cell_regrown c4
  have r_c5 := cell_regrown c5
  have r_c6 := cell_regrown c6
  have r_d0 := cell_regrown d0
  have r_d1 := cell_regrown d1
  have r_d2 := cell_regrown d2
  have r_d3 := cell_regrown d3
  have r_d4 := cell_regrown d4
  have r_d5 := cell_regrown d5
  have r_d6 := cell_regrown d6
  refine wp_region_quiet_below (by kernel_rfl) (by kernel_rfl) ?_
  repeat (go_big_quiet_step (first | (go_at_call 8; exact cSame.out _ _) | (go_at_call 12; with_reducible exact cSound2.out _ _) | (go_at_call 12; with_reducible exact cSound.out _ _) | (go_at_call 13; exact cRef.out _ _)))
  refine wpQuiet_nil ?_
  intro wq hwq
  have q := Fr.regrown f.ok hwq
  clear hwq r_c0 r_c1 r_c2' r_c3 r_c4 r_c5 r_c6 r_d0 r_d1 r_d2 r_d3 r_d4 r_d5 r_d6
  replace c0 := q.cell c0
  replace c1 := q.cell c1
  replace c2' := q.cell c2'
  replace c3 := q.cell c3
  replace c4 := q.cell c4
  replace c5 := q.cell c5
  replace c6 := q.cell c6
  replace d0 := q.cell d0
  replace d1 := q.cell d1
  replace d2 := q.cell d2
  replace d3 := q.cell d3
  replace d4 := q.cell d4
  replace d5 := q.cell d5
  replace d6 := q.cell d6
  replace m := m.fr q; replace hsz1 := Nat.le_trans hsz1 q.size
  replace f := f.trans q
  clear q
  clear cSame cSound2 cSound cRef
  cases hrt : readL t with
  | error n =>
    have hn1 := read_error hrt
    go_wp2_with (first
      | (go_at_call 10; refine (read_go t _ f.ok m (by omega) hsz1).mono ?_; rintro e ws ⟨q, he⟩; rw [hrt] at he; unfold endRead at he; dsimp only at he; subst he; replace f := f.trans q; clear q; unfold repV zeroRep; dsimp only [List.length_nil]; obtain ⟨w6, g6, hg6, hw6, f6, hz6, H6⟩ := boxedN f.ok #[.int .u64 0, .int .i64 0, .int .i64 0, .int .i64 0, .int .i64 0, .bool false, .slice none 0 0] 25; replace f := f.trans f6; clear f6; obtain ⟨k0, k1, k2, k3, k4, k5, k6⟩ := blk7 H6; have z6 := unfrozen H6; have i0 := set_idem H6 0 (.int .u64 0) rfl; have i1 := set_idem H6 1 (.int .i64 0) rfl; have i2 := set_idem H6 2 (.int .i64 0) rfl; have i3 := set_idem H6 3 (.int .i64 0) rfl; have i4 := set_idem H6 4 (.int .i64 0) rfl; have i5 := set_idem H6 5 (.bool false) rfl; have i6 := set_idem H6 6 (.slice none 0 0) rfl))
    go_ret
    exact ⟨rfl, f⟩
  | ok u =>
    obtain ⟨ht2, hu⟩ := read_ok hrt
    have hul : u.fs.length ≤ 1048576 := by
      have h1 : u.fs.length ≤ ((u.fs.map rowL).flatten).length := by
        clear ht2 hrt
        generalize u.fs = fs
        induction fs with
        | nil => simp
        | cons x fs ih => have := rowL_ne x; simp only [List.map_cons, List.flatten_cons, List.length_append, List.length_cons]; omega
      have h2 : ((u.fs.map rowL).flatten).length ≤ (showL u).length := by unfold showL; simp
      rw [← ht2] at h2
      omega
    have hte : (showL u == t) = true := by simp [← ht2]
    replace ht2 := Lib.hid ht2
    go_wp2_with (first
      | (go_at_call 10; refine (read_go t _ f.ok m (by omega) hsz1).mono ?_; rintro e ws ⟨q, he⟩; rw [hrt] at he; obtain ⟨a6, c6', rfl, B6, hB6, hown6⟩ := he; have hF6 := FRow.of_own hown6; replace f := f.trans q; clear q hown6; unfold repV; obtain ⟨w6, g6, hg6, hw6, f6, hz6, H6⟩ := boxedN f.ok #[.int .u64 u.floor, .int .i64 u.counted, .int .i64 u.live, .int .i64 u.used, .int .i64 u.bad, .bool u.saved, .slice a6 u.fs.length c6'] 25; replace hF6 := hF6.fr f6; replace f := f.trans f6; clear f6; obtain ⟨k0, k1, k2, k3, k4, k5, k6⟩ := blk7 H6)
      | (go_at_call 6; refine (progShow u a6 c6' _ f.ok hu hF6 (by omega)).mono ?_; rintro e wx ⟨rfl, q⟩; replace f := f.trans q; clear q))
    go_ret
    exact ⟨rfl, f⟩
end Go.Proofs.YtioapjnaopnhaaaDoor
