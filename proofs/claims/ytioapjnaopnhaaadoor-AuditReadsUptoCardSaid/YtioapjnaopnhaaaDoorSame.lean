/- shaleref19.Same: are two reports alike in all parts? For any two reports. -/
import Derived.Test.YtioapjnaopnhaaaDoorShowRef
set_option linter.unusedSimpArgs false
set_option linter.unusedVariables false
namespace Go.Proofs.YtioapjnaopnhaaaDoor
open Go.RowKit Go.Proofs

def sameR (a b : Rep) : Bool := a.floor == b.floor && a.counted == b.counted && a.live == b.live && a.used == b.used && a.bad == b.bad && a.saved == b.saved && a.fs == b.fs
def repV (r : Rep) (a : Option Addr) (c : Nat) : Value := .agg #[.int .u64 r.floor, .int .i64 r.counted, .int .i64 r.live, .int .i64 r.used, .int .i64 r.bad, .bool r.saved, .slice a r.fs.length c]

theorem sameR_of {a b : Rep} (h : sameR a b = true) : a = b := by
  obtain ⟨a0, a1, a2, a3, a4, a5, a6⟩ := a
  obtain ⟨b0, b1, b2, b3, b4, b5, b6⟩ := b
  simp only [sameR, Bool.and_eq_true, beq_iff_eq] at h
  obtain ⟨⟨⟨⟨⟨⟨rfl, rfl⟩, rfl⟩, rfl⟩, rfl⟩, rfl⟩, rfl⟩ := h
  rfl
theorem sameR_refl (a : Rep) : sameR a a = true := by simp [sameR]

set_option maxHeartbeats 1600000 in
set_option maxRecDepth 100000 in
theorem same_heads (a b : Rep) (aa ab : Option Addr) (ca cb : Nat) (w : World) (hw : Ok w)
    (h : a.floor ≠ b.floor ∨ a.floor = b.floor ∧ (a.counted ≠ b.counted ∨ a.counted = b.counted ∧ (a.live ≠ b.live ∨ a.live = b.live ∧ (a.used ≠ b.used ∨ a.used = b.used ∧ (a.bad ≠ b.bad ∨ a.bad = b.bad ∧ (a.saved ≠ b.saved ∨ a.saved = b.saved ∧ a.fs.length ≠ b.fs.length)))))) :
    Calls Tryd.prog 8 #[repV a aa ca, repV b ab cb] w fun e w' => e = .returned (.bool false) ∧ Fr w w' := by
  obtain ⟨a0, a1, a2, a3, a4, a5, a6⟩ := a
  obtain ⟨b0, b1, b2, b3, b4, b5, b6⟩ := b
  unfold repV
  dsimp only at h ⊢
  obtain ⟨w1, g, hg, hw1, f, hz1, H⟩ := boxedN hw #[.int .u64 a0, .int .i64 a1, .int .i64 a2, .int .i64 a3, .int .i64 a4, .bool a5, .slice aa a6.length ca] 25
  obtain ⟨w2, g2, hg2, hw2, f2, hz2, H2⟩ := boxedN f.ok #[.int .u64 b0, .int .i64 b1, .int .i64 b2, .int .i64 b3, .int .i64 b4, .bool b5, .slice ab b6.length cb] 25
  replace H := f2.heap H
  replace f := f.trans f2
  obtain ⟨c0, c1, c2, c3, c4, c5, c6⟩ := blk7 H
  obtain ⟨d0, d1, d2, d3, d4, d5, d6⟩ := blk7 H2
  clear f2
  rcases h with h | ⟨rfl, h | ⟨rfl, h | ⟨rfl, h | ⟨rfl, h | ⟨rfl, h | ⟨rfl, h⟩⟩⟩⟩⟩⟩
  · have e : (a0 != b0) = true := by simpa using h
    go_enter Tryd.func8, Tryd.ntmps8
    go_wp2
    go_ret
    exact ⟨rfl, f⟩
  · have e : (a1 != b1) = true := by simpa using h
    go_enter Tryd.func8, Tryd.ntmps8
    go_wp2
    go_ret
    exact ⟨rfl, f⟩
  · have e : (a2 != b2) = true := by simpa using h
    go_enter Tryd.func8, Tryd.ntmps8
    go_wp2
    go_ret
    exact ⟨rfl, f⟩
  · have e : (a3 != b3) = true := by simpa using h
    go_enter Tryd.func8, Tryd.ntmps8
    go_wp2
    go_ret
    exact ⟨rfl, f⟩
  · have e : (a4 != b4) = true := by simpa using h
    go_enter Tryd.func8, Tryd.ntmps8
    go_wp2
    go_ret
    exact ⟨rfl, f⟩
  · cases a5 <;> cases b5
    · exact absurd rfl h
    · go_enter Tryd.func8, Tryd.ntmps8
      go_wp2
      go_ret
      exact ⟨rfl, f⟩
    · go_enter Tryd.func8, Tryd.ntmps8
      go_wp2
      go_ret
      exact ⟨rfl, f⟩
    · exact absurd rfl h
  · have e : ((a6.length : Int) != (b6.length : Int)) = true := by rw [bne_iff_ne]; omega
    cases a5
    all_goals
      go_enter Tryd.func8, Tryd.ntmps8
      go_wp2
      go_ret
      exact ⟨rfl, f⟩

theorem eqPlace (d : Nat) (w : World) (x0 y0 x1 y1 : Int) :
    (Op.equalIn (d + 2) 27 (.agg #[.int .i64 x0, .int .i64 x1]) (.agg #[.int .i64 y0, .int .i64 y1])).run Tryd.prog w = .ok (x0 == y0 && (x1 == y1 && true)) w := by
  refine eq_struct Tryd.underlying27 (by kernel_rfl) ?_
  refine eq_field (by decide) (by go_simp; rfl) (by go_simp; rfl) (by go_simp) ?_
  exact eq_field (by decide) (by go_simp; rfl) (by go_simp; rfl) (by go_simp) eq_done
def fndEq (x y : Fnd) : Bool := x == y
theorem eqFnd (d : Nat) (w : World) (x y : Fnd) :
    (Op.equalIn (d + 3) 29 (.agg #[.int .i64 x.k, .int .i64 x.b, .int .i64 x.p, .int .i64 x.o]) (.agg #[.int .i64 y.k, .int .i64 y.b, .int .i64 y.p, .int .i64 y.o])).run Tryd.prog w = .ok (fndEq x y) w := by
  have e : fndEq x y = (x.k == y.k && ((x.b == y.b && (x.p == y.p && true)) && (x.o == y.o && true))) := by
    unfold fndEq
    rw [Bool.eq_iff_iff]
    obtain ⟨_, _, _, _⟩ := x
    obtain ⟨_, _, _, _⟩ := y
    simp [and_assoc]
  rw [e]
  refine eq_struct Tryd.underlying29 (by kernel_rfl) ?_
  refine eq_field (by decide) (by go_simp; rfl) (by go_simp; rfl) (by go_simp) ?_
  refine eq_field (by decide) (by go_simp) (by go_simp) (eqPlace (d + 0) w _ _ _ _) ?_
  exact eq_field (by decide) (by go_simp; rfl) (by go_simp; rfl) (by go_simp) eq_done
theorem neqFnd (x y : Fnd) (w : World) : (binOp .neq 29 (.agg #[.int .i64 x.k, .int .i64 x.b, .int .i64 x.p, .int .i64 x.o]) (.agg #[.int .i64 y.k, .int .i64 y.b, .int .i64 y.p, .int .i64 y.o])).run Tryd.prog w = .ok (.bool (!(fndEq x y))) w := by
  rw [run_neq_struct, eqFnd 9997 w x y]
  rfl

set_option maxHeartbeats 1600000 in
set_option maxRecDepth 100000 in
theorem same_rows (a b : Rep) (aa ab : Option Addr) (ca cb : Nat) (w : World) (hw : Ok w) (hA : FRow w aa a.fs) (hB : FRow w ab b.fs) (hn : a.fs.length ≤ 1099511627776)
    (h0 : a.floor = b.floor) (h1 : a.counted = b.counted) (h2 : a.live = b.live) (h3 : a.used = b.used) (h4 : a.bad = b.bad) (h5 : a.saved = b.saved) (h6 : a.fs.length = b.fs.length) :
    Calls Tryd.prog 8 #[repV a aa ca, repV b ab cb] w fun e w' => e = .returned (.bool (a.fs == b.fs)) ∧ Fr w w' := by
  obtain ⟨a0, a1, a2, a3, a4, a5, a6⟩ := a
  obtain ⟨b0, b1, b2, b3, b4, b5, b6⟩ := b
  unfold repV
  dsimp only at h0 h1 h2 h3 h4 h5 h6 hA hB hn ⊢
  subst h0 h1 h2 h3 h4 h5
  rw [← h6]
  have h6' : ∀ k, k < a6.length → k < b6.length := fun k hk => by omega
  have HL := Lib.hid h6
  clear h6
  obtain ⟨w1, g, hg, hw1, f, hz1, H⟩ := boxedN hw #[.int .u64 a0, .int .i64 a1, .int .i64 a2, .int .i64 a3, .int .i64 a4, .bool a5, .slice aa a6.length ca] 25
  obtain ⟨w2, g2, hg2, hw2, f2, hz2, H2⟩ := boxedN f.ok #[.int .u64 a0, .int .i64 a1, .int .i64 a2, .int .i64 a3, .int .i64 a4, .bool a5, .slice ab a6.length cb] 25
  replace H := f2.heap H
  replace f := f.trans f2
  obtain ⟨c0, c1, c2, c3, c4, c5, c6⟩ := blk7 H
  obtain ⟨d0, d1, d2, d3, d4, d5, d6⟩ := blk7 H2
  clear f2
  have e5 : (a5 != a5) = false := by cases a5 <;> rfl
  go_enter Tryd.func8, Tryd.ntmps8
  go_wp2
  go_loopw [5] (fun i W => ∃ k : Nat, k ≤ a6.length ∧ i = .int .i64 k ∧ a6.take k = b6.take k ∧ Fr w W ∧ W.cell? ⟨g, 6, none⟩ = some (.slice aa a6.length ca) ∧ W.cell? ⟨g2, 6, none⟩ = some (.slice ab a6.length cb)) (fun i _ => a6.length - (intOf i).toNat)
  case atStart => exact ⟨0, by omega, rfl, rfl, f, c6, d6⟩
  case round =>
    clear f c0 c1 c2 c3 c4 c5 c6 d0 d1 d2 d3 d4 d5 d6 H H2
    obtain ⟨k, hk, rfl, hpre, f, c6, d6⟩ := hrel
    have HP := Lib.hid hpre
    clear hpre
    by_cases hlt : k < a6.length
    · have hlt2 := h6' k hlt
      obtain ⟨ba, oa, rfl, hba, hca⟩ : ∃ b o, aa = some ⟨b, o, none⟩ ∧ _ := (hA.fr f).resolve_left (by intro e; rw [e] at hlt; simp at hlt)
      obtain ⟨bb, ob, rfl, hbb, hcb⟩ : ∃ b o, ab = some ⟨b, o, none⟩ ∧ _ := (hB.fr f).resolve_left (by intro e; rw [e] at hlt2; simp at hlt2)
      obtain ⟨e0, e1, e2, e3⟩ := hca k a6[k] (List.getElem?_eq_getElem _)
      obtain ⟨g0, g1, g2', g3⟩ := hcb k b6[k] (List.getElem?_eq_getElem _)
      have hne := fun W => neqFnd a6[k] b6[k] W
      have hfin : fndEq a6[k] b6[k] = false → (a6 == b6) = false := fun h => by
        rw [beq_eq_false_iff_ne]
        intro e
        subst e
        simp [fndEq] at h
      have hgo : fndEq a6[k] b6[k] = true → a6.take (k + 1) = b6.take (k + 1) := fun h => by
        rw [List.take_succ_eq_append_getElem hlt, List.take_succ_eq_append_getElem hlt2, HP.out]
        have h' : a6[k] = b6[k] := by simpa [fndEq] using h
        rw [h']
      have HF := Lib.hid hfin
      have HG := Lib.hid hgo
      clear hfin hgo
      generalize hx : fndEq a6[k] b6[k] = x at *
      cases x
      · have HF2 := Lib.hid (HF.out rfl)
        clear HF HG
        go_wp2_with fail
        have r_e0 := cell_regrown e0
        have r_e1 := cell_regrown e1
        have r_e2 := cell_regrown e2
        have r_e3 := cell_regrown e3
        have r_g0 := cell_regrown g0
        have r_g1 := cell_regrown g1
        have r_g2' := cell_regrown g2'
        have r_g3 := cell_regrown g3
        have r_c6 := cell_regrown c6
        have r_d6 := cell_regrown d6
        refine wp_region_quiet_below (by kernel_rfl) (by kernel_rfl) ?_
        repeat (go_big_quiet_step (fail))
        refine wpQuiet_nil ?_
        intro wq hwq
        have q := Fr.regrown f.ok hwq
        clear hwq r_e0 r_e1 r_e2 r_e3 r_g0 r_g1 r_g2' r_g3 r_c6 r_d6
        replace e0 := q.cell e0
        replace e1 := q.cell e1
        replace e2 := q.cell e2
        replace e3 := q.cell e3
        replace g0 := q.cell g0
        replace g1 := q.cell g1
        replace g2' := q.cell g2'
        replace g3 := q.cell g3
        replace c6 := q.cell c6
        replace d6 := q.cell d6
        replace f := f.trans q
        clear q
        go_wp2_with fail
        go_ret
        exact ⟨by rw [HF2.out]; rfl, f⟩
      · have HG2 := Lib.hid (HG.out rfl)
        clear HF HG
        go_wp2_with fail
        have r_e0 := cell_regrown e0
        have r_e1 := cell_regrown e1
        have r_e2 := cell_regrown e2
        have r_e3 := cell_regrown e3
        have r_g0 := cell_regrown g0
        have r_g1 := cell_regrown g1
        have r_g2' := cell_regrown g2'
        have r_g3 := cell_regrown g3
        have r_c6 := cell_regrown c6
        have r_d6 := cell_regrown d6
        refine wp_region_quiet_below (by kernel_rfl) (by kernel_rfl) ?_
        repeat (go_big_quiet_step (fail))
        refine wpQuiet_nil ?_
        intro wq hwq
        have q := Fr.regrown f.ok hwq
        clear hwq r_e0 r_e1 r_e2 r_e3 r_g0 r_g1 r_g2' r_g3 r_c6 r_d6
        replace e0 := q.cell e0
        replace e1 := q.cell e1
        replace e2 := q.cell e2
        replace e3 := q.cell e3
        replace g0 := q.cell g0
        replace g1 := q.cell g1
        replace g2' := q.cell g2'
        replace g3 := q.cell g3
        replace c6 := q.cell c6
        replace d6 := q.cell d6
        replace f := f.trans q
        clear q
        go_wp2_with fail
        go_roundw
        case rel => exact ⟨k + 1, by omega, by go_num, HG2.out, f, c6, d6⟩
        case measure => simp [intOf]; omega
    · obtain rfl : k = a6.length := by omega
      have hfin : (a6 == b6) = true := by
        have h := HP.out
        rw [List.take_length, HL.out, List.take_length] at h
        rw [h]; simp
      have HF := Lib.hid hfin
      clear hfin
      go_wp2
      go_ret
      exact ⟨by rw [HF.out]; rfl, f⟩

theorem same_any (a b : Rep) (aa ab : Option Addr) (ca cb : Nat) (w : World) (hw : Ok w) (hA : FRow w aa a.fs) (hB : FRow w ab b.fs) (hn : a.fs.length ≤ 1099511627776) :
    Calls Tryd.prog 8 #[repV a aa ca, repV b ab cb] w fun e w' => e = .returned (.bool (sameR a b)) ∧ Fr w w' := by
  by_cases h0 : a.floor = b.floor
  case neg => rw [show sameR a b = false by simp [sameR, h0]]; exact same_heads a b aa ab ca cb w hw (.inl h0)
  by_cases h1 : a.counted = b.counted
  case neg => rw [show sameR a b = false by simp [sameR, h1]]; exact same_heads a b aa ab ca cb w hw (.inr ⟨h0, .inl h1⟩)
  by_cases h2 : a.live = b.live
  case neg => rw [show sameR a b = false by simp [sameR, h2]]; exact same_heads a b aa ab ca cb w hw (.inr ⟨h0, .inr ⟨h1, .inl h2⟩⟩)
  by_cases h3 : a.used = b.used
  case neg => rw [show sameR a b = false by simp [sameR, h3]]; exact same_heads a b aa ab ca cb w hw (.inr ⟨h0, .inr ⟨h1, .inr ⟨h2, .inl h3⟩⟩⟩)
  by_cases h4 : a.bad = b.bad
  case neg => rw [show sameR a b = false by simp [sameR, h4]]; exact same_heads a b aa ab ca cb w hw (.inr ⟨h0, .inr ⟨h1, .inr ⟨h2, .inr ⟨h3, .inl h4⟩⟩⟩⟩)
  by_cases h5 : a.saved = b.saved
  case neg => rw [show sameR a b = false by simp [sameR, h5]]; exact same_heads a b aa ab ca cb w hw (.inr ⟨h0, .inr ⟨h1, .inr ⟨h2, .inr ⟨h3, .inr ⟨h4, .inl h5⟩⟩⟩⟩⟩)
  by_cases h6 : a.fs.length = b.fs.length
  case neg =>
    have h7 : a.fs ≠ b.fs := fun e => h6 (by rw [e])
    rw [show sameR a b = false by simp [sameR, h7]]
    exact same_heads a b aa ab ca cb w hw (.inr ⟨h0, .inr ⟨h1, .inr ⟨h2, .inr ⟨h3, .inr ⟨h4, .inr ⟨h5, h6⟩⟩⟩⟩⟩⟩)
  rw [show sameR a b = (a.fs == b.fs) by simp [sameR, h0, h1, h2, h3, h4, h5]]
  exact same_rows a b aa ab ca cb w hw hA hB hn h0 h1 h2 h3 h4 h5 h6
end Go.Proofs.YtioapjnaopnhaaaDoor
