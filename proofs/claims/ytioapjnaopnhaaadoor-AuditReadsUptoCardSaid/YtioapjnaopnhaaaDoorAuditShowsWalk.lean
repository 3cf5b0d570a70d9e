/- The law AuditShows, walked: it returns true for every report whose findings are at most 2^30. -/
import Derived.Test.YtioapjnaopnhaaaDoorShowProg
import Derived.Test.YtioapjnaopnhaaaDoorSame
import Derived.Laws.AppendOwnNone
set_option linter.unusedSimpArgs false
set_option linter.unusedVariables false
namespace Go.Proofs.YtioapjnaopnhaaaDoor
open Go.RowKit Go.Proofs

def fcells (f : Fnd) : List Value := [.int .i64 f.k, .int .i64 f.b, .int .i64 f.p, .int .i64 f.o]
def frow (fs : List Fnd) : List Value := fs.flatMap fcells
theorem frow_length (fs : List Fnd) : (frow fs).length = fs.length * 4 := by
  induction fs with
  | nil => rfl
  | cons f fs ih => simp only [frow, List.flatMap_cons, List.length_append, List.length_cons] at *; rw [ih]; simp [fcells]; omega
theorem frow_get (fs : List Fnd) (i j : Nat) (f : Fnd) (h : fs[i]? = some f) (hj : j < 4) : (frow fs)[i * 4 + j]? = (fcells f)[j]? := by
  induction fs generalizing i with
  | nil => simp at h
  | cons x fs ih =>
    simp only [frow, List.flatMap_cons]
    cases i with
    | zero =>
      simp at h; subst h
      rw [List.getElem?_append_left (by simp [fcells]; omega)]
      simp
    | succ i =>
      rw [List.getElem?_append_right (by simp [fcells]; omega)]
      have := ih i (by simpa using h)
      simp only [fcells, List.length_cons, List.length_nil] at *
      rw [← this]
      simp only [frow]
      congr 1
      omega
theorem frow_one (fs : List Fnd) : ∀ u ∈ frow fs, u.oneCell' = true := by
  intro u hu
  simp only [frow, List.mem_flatMap] at hu
  obtain ⟨f, _, hu⟩ := hu
  simp only [fcells, List.mem_cons, List.not_mem_nil, or_false] at hu
  rcases hu with rfl | rfl | rfl | rfl <;> rfl

theorem FRow.cells {w : World} {b o : Nat} {fs : List Fnd} (h : FRow w (some ⟨b, o, none⟩) fs) : ∀ j u, (frow fs)[j]? = some u → w.cell? ((⟨b, o, none⟩ : Addr).add j) = some u := by
  intro j u hj
  have hlt : j < fs.length * 4 := by rw [← frow_length]; exact (List.getElem?_eq_some_iff.1 hj).1
  rcases h with h | ⟨b', o', e, hb, h⟩
  · subst h; simp [frow] at hj
  · injection e with e; injection e with e1 e2; subst e1 e2
    have hi : j / 4 < fs.length := by omega
    have hget := frow_get fs (j / 4) (j % 4) fs[j / 4] (List.getElem?_eq_getElem hi) (by omega)
    have hc := h (j / 4) fs[j / 4] (List.getElem?_eq_getElem hi)
    have hj4 : j / 4 * 4 + j % 4 = j := by omega
    rw [hj4, hj] at hget
    have hadd : ((⟨b, o, none⟩ : Addr).add j) = ⟨b, o + j, none⟩ := Lib.add_plain b o j
    rw [hadd]
    generalize fs[j / 4] = f at *
    have hm : j % 4 = 0 ∨ j % 4 = 1 ∨ j % 4 = 2 ∨ j % 4 = 3 := by omega
    obtain ⟨h0, h1, h2, h3⟩ := hc
    rcases hm with hm | hm | hm | hm <;> rw [hm] at hget <;> simp [fcells] at hget <;> subst hget
    · rw [show o + j = o + j / 4 * 4 by omega]; exact h0
    · rw [show o + j = o + j / 4 * 4 + 1 by omega]; exact h1
    · rw [show o + j = o + j / 4 * 4 + 2 by omega]; exact h2
    · rw [show o + j = o + j / 4 * 4 + 3 by omega]; exact h3

/-- a row of the call's own that begins with these findings -/
theorem own_FRow {w : World} {base n cap g : Nat} {fs : List Fnd} {xs : List Value} (h : w.ownsRow base 29 4 (.slice (some ⟨g, 0, none⟩) n cap) n (frow fs ++ xs)) : FRow w (some ⟨g, 0, none⟩) fs := by
  have hg := h.lt g rfl
  refine .inr ⟨g, 0, rfl, hg.2, fun i f hi => ?_⟩
  have hil : i < fs.length := (List.getElem?_eq_some_iff.1 hi).1
  have key : ∀ j u, j < 4 → (fcells f)[j]? = some u → w.cell? ⟨g, 0 + i * 4 + j, none⟩ = some u := fun j u hj hu => by
    have := h.cells (g := g) rfl (i * 4 + j) u (by rw [List.getElem?_append_left (by rw [frow_length]; omega), frow_get fs i j f hi hj]; exact hu)
    rw [Lib.add_plain] at this
    rw [← this]; congr 2; omega
  exact ⟨key 0 _ (by omega) rfl, key 1 _ (by omega) rfl, key 2 _ (by omega) rfl, key 3 _ (by omega) rfl⟩

theorem infoF : (Tryd.prog.info? 29).map (fun i => (i.zero, i.size, i.bytes)) = some (some (.agg #[.int .i64 0, .int .i64 0, .int .i64 0, .int .i64 0]), 4, 32) := by kernel_rfl

set_option maxHeartbeats 3200000 in
set_option maxRecDepth 100000 in
theorem law_AuditShows (r : Rep) (ad : Addr) (c : Nat) (w : World) (hw : Ok w) (hr : r.wf) (hF : FRow w (some ad) r.fs) (hcells : ∀ j u, (frow r.fs)[j]? = some u → w.cell? (ad.add j) = some u) (hn : r.fs.length ≤ 1073741824) (hnc : r.fs.length ≤ c) :
    Calls Tryd.prog 3 #[repV r (some ad) c] w fun e w' => e = .returned (.bool true) ∧ Fr w w' := by
  unfold repV
  obtain ⟨i0, hi0, hz0, hz1, hz2⟩ := info_parts infoF
  obtain ⟨w1, g, hg, hw1, f, hz1', H⟩ := boxedN hw #[.int .u64 r.floor, .int .i64 r.counted, .int .i64 r.live, .int .i64 r.used, .int .i64 r.bad, .bool r.saved, .slice (some ad) r.fs.length c] 25
  obtain ⟨w2, g2, hg2, hw2, f2, hz2', H2⟩ := boxedN f.ok #[] 29
  replace H := f2.heap H
  replace f := f.trans f2
  obtain ⟨c0, c1, c2, c3, c4, c5, c6⟩ := blk7 H
  have hown : w2.ownsRow (g + 1) 29 4 (.slice (some ⟨g2, 0, none⟩) 0 0) 0 [] := ⟨by simp, .inr ⟨g2, 0, #[], rfl, by omega, H2, by omega, by simp, by simp, by simp⟩⟩
  have hcells2 : ∀ j u, (frow r.fs)[j]? = some u → w2.cell? (ad.add j) = some u := fun j u h => f.cell (hcells j u h)
  go_enter Tryd.func3, Tryd.ntmps3
  go_wp2_with (at_builtin; go_loud (refine wpList_append_own _ rfl (.tmp 6) (.tmp 8) 23 rfl (g + 1) 29 i0 _ 4 32 Tryd.underlying23 hi0 hz0 hz1 hz2 rfl (by decide) (.slice (some ⟨g2, 0, none⟩) 0 0) 0 [] rfl hown ad r.fs.length c (frow r.fs) rfl (frow_length _) hcells2 (frow_one _) (by unfold maxLen; omega) (by omega) (by omega) ?_); intro v1 w3 hown1 hgr1 hnil1; refine Hid.out ?_)
  obtain ⟨g3, cap3, rfl, hb3, hl3, hc3⟩ := own_some hown1 (fun e => by have := (hnil1.1 e).1; cases this)
  clear hnil1
  replace H := grown_blk hgr1 H (by simp [Value.ownBlock]; omega)
  have fk := f.row hw hgr1 (fun k hk => by have := own_base' hown k hk; omega)
  clear hgr1 hown hcells2 H2 f2 c0 c1 c2 c3 c4 c5 c6
  replace f := fk
  clear fk
  obtain ⟨w4, g4, hg4, hw4, f4, hz4, H4⟩ := boxedN f.ok #[.int .i64 71, .int .i64 0, .int .i64 0, .int .i64 0, .int .i64 72, .int .i64 0, .int .i64 0, .int .i64 0] 29
  replace hown1 := own_fr hown1 f4
  simp only [Nat.zero_add, List.nil_append] at hown1
  replace H := f4.heap H
  replace f := f.trans f4
  have hn4 : ∀ j u, ([.int .i64 71, .int .i64 0, .int .i64 0, .int .i64 0, .int .i64 72, .int .i64 0, .int .i64 0, .int .i64 0] : List Value)[j]? = some u → w4.cell? ((⟨g4, 0, none⟩ : Addr).add j) = some u := fun j u hj => by
    rw [Lib.add_plain, Nat.zero_add]
    exact blk_cell H4 (by simpa using hj)
  have hcap3 : r.fs.length + 2 ≤ maxLen := by unfold maxLen; omega
  refine Lib.hid ?_
  go_wp2_with (at_builtin; go_loud (refine wpList_append_own _ rfl (.tmp 9) (.tmp 12) 23 rfl (g + 1) 29 i0 _ 4 32 Tryd.underlying23 hi0 hz0 hz1 hz2 rfl (by decide) (.slice (some ⟨g3, 0, none⟩) r.fs.length cap3) r.fs.length (frow r.fs) (by simp [Act.eval]) hown1 ⟨g4, 0, none⟩ 2 2 [.int .i64 71, .int .i64 0, .int .i64 0, .int .i64 0, .int .i64 72, .int .i64 0, .int .i64 0, .int .i64 0] rfl rfl hn4 (by simp [Value.oneCell']) hcap3 (by omega) (by omega) ?_); intro v2 w5 hown2 hgr2 hnil2; refine Hid.out ?_)
  obtain ⟨g5, cap5, rfl, hb5, hl5, hc5⟩ := own_some hown2 (fun e => by have := (hnil2.1 e).1; simp [Act.eval] at this)
  clear hnil2
  have hr2 : ∀ k, (Value.slice (some ⟨g3, 0, none⟩) r.fs.length cap3).ownBlock = some k → w.heap.size ≤ k := fun k hk => by have := own_base' hown1 k hk; omega
  have hgr : w4.grownBy w5 (Value.slice (some ⟨g3, 0, none⟩) r.fs.length cap3).ownBlock := by simpa [Act.eval] using hgr2
  replace H := grown_blk hgr H (by simp [Value.ownBlock]; omega)
  have fk := f.row hw hgr hr2
  clear hgr hgr2 hr2 hown1 hn4 H4 f4
  replace f := fk
  clear fk
  obtain ⟨c0, c1, c2, c3, c4, c5, c6⟩ := blk7 H
  obtain ⟨w6, g6, hg6, hw6, f6, hz6, H6⟩ := boxedN f.ok #[.int .u64 r.floor, .int .i64 r.counted, .int .i64 r.live, .int .i64 r.used, .int .i64 r.bad, .bool r.saved, .slice (some ⟨g5, 0, none⟩) r.fs.length cap5] 25
  have hown := own_fr hown2 f6
  have hgg : g < g6 := by have := (Array.getElem?_eq_some_iff.1 H).1; omega
  replace H := f6.heap H
  have fR := own_FRow hown
  have e1 : w6.cell? ⟨g5, r.fs.length * 4, none⟩ = some (.int .i64 71) := by
    have := hown.cells (g := g5) rfl (r.fs.length * 4 + 0) (.int .i64 71) (by rw [List.getElem?_append_right (by rw [frow_length]; omega), frow_length]; simp)
    rwa [Lib.add_plain, Nat.zero_add, Nat.add_zero] at this
  have e2 : w6.cell? ⟨g5, (r.fs.length + 1) * 4, none⟩ = some (.int .i64 72) := by
    have := hown.cells (g := g5) rfl (r.fs.length * 4 + 4) (.int .i64 72) (by rw [List.getElem?_append_right (by rw [frow_length]; omega), frow_length]; simp [show r.fs.length * 4 + 4 - r.fs.length * 4 = 4 by omega])
    rw [Lib.add_plain, Nat.zero_add] at this
    rw [← this]; congr 2; omega
  clear hown hown2
  replace f := f.trans f6
  clear f6
  obtain ⟨d0, d1, d2, d3, d4, d5, d6⟩ := blk7 H6
  refine Lib.hid ?_
  go_wp2_with (first
    | (go_at_call 6; refine (progShow r (some ⟨g5, 0, none⟩) cap5 _ f.ok hr fR (by omega)).mono ?_; rintro e wq ⟨rfl, q⟩; replace H := q.heap H; replace H6 := q.heap H6; replace fR := fR.fr q; replace e1 := q.cell e1; replace e2 := q.cell e2; replace f := f.trans q; clear q c0 c1 c2 c3 c4 c5 c6 d0 d1 d2 d3 d4 d5 d6; obtain ⟨c0, c1, c2, c3, c4, c5, c6⟩ := blk7 H; obtain ⟨d0, d1, d2, d3, d4, d5, d6⟩ := blk7 H6)
    | (go_at_call 7; refine (refShow r (some ad) c _ f.ok hr (hF.fr f) (by omega)).mono ?_; rintro e wq ⟨rfl, q⟩; replace H := q.heap H; replace H6 := q.heap H6; replace fR := fR.fr q; replace e1 := q.cell e1; replace e2 := q.cell e2; replace f := f.trans q; clear q c0 c1 c2 c3 c4 c5 c6 d0 d1 d2 d3 d4 d5 d6; obtain ⟨c0, c1, c2, c3, c4, c5, c6⟩ := blk7 H; obtain ⟨d0, d1, d2, d3, d4, d5, d6⟩ := blk7 H6)
    | (go_at_call 8; refine (same_any r r (some ⟨g5, 0, none⟩) (some ad) cap5 c _ f.ok fR (hF.fr f) (by omega)).mono ?_; rintro e wq ⟨rfl, q⟩; replace H := q.heap H; replace H6 := q.heap H6; replace e1 := q.cell e1; replace e2 := q.cell e2; replace f := f.trans q; rw [sameR_refl]; clear q c0 c1 c2 c3 c4 c5 c6 d0 d1 d2 d3 d4 d5 d6; obtain ⟨c0, c1, c2, c3, c4, c5, c6⟩ := blk7 H; obtain ⟨d0, d1, d2, d3, d4, d5, d6⟩ := blk7 H6))
  go_ret
  exact ⟨rfl, f⟩

set_option maxHeartbeats 3200000 in
set_option maxRecDepth 100000 in
theorem law_AuditShows_nil (r : Rep) (w : World) (hw : Ok w) (hr : r.wf) (hnil : r.fs = []) :
    Calls Tryd.prog 3 #[repV r none 0] w fun e w' => e = .returned (.bool true) ∧ Fr w w' := by
  obtain ⟨fl, ct, lv, us, bd, sv, fs⟩ := r
  dsimp only at hnil
  subst hnil
  unfold repV
  dsimp only [List.length_nil]
  obtain ⟨i0, hi0, hz0, hz1, hz2⟩ := info_parts infoF
  obtain ⟨w1, g, hg, hw1, f, hz1', H⟩ := boxedN hw #[.int .u64 fl, .int .i64 ct, .int .i64 lv, .int .i64 us, .int .i64 bd, .bool sv, .slice none 0 0] 25
  obtain ⟨w2, g2, hg2, hw2, f2, hz2', H2⟩ := boxedN f.ok #[] 29
  replace H := f2.heap H
  replace f := f.trans f2
  obtain ⟨c0, c1, c2, c3, c4, c5, c6⟩ := blk7 H
  have hown : w2.ownsRow (g + 1) 29 4 (.slice (some ⟨g2, 0, none⟩) 0 0) 0 [] := ⟨by simp, .inr ⟨g2, 0, #[], rfl, by omega, H2, by omega, by simp, by simp, by simp⟩⟩
  go_enter Tryd.func3, Tryd.ntmps3
  go_wp2_with (at_builtin; go_loud (refine wpList_append_own_none rfl (.tmp 6) (.tmp 8) 23 rfl (g + 1) 29 i0 4 Tryd.underlying23 hi0 (.slice (some ⟨g2, 0, none⟩) 0 0) 0 [] rfl hown rfl ?_); refine Hid.out ?_)
  have hown1 := hown
  clear hown H2 f2 c0 c1 c2 c3 c4 c5 c6
  obtain ⟨w4, g4, hg4, hw4, f4, hz4, H4⟩ := boxedN f.ok #[.int .i64 71, .int .i64 0, .int .i64 0, .int .i64 0, .int .i64 72, .int .i64 0, .int .i64 0, .int .i64 0] 29
  replace hown1 := own_fr hown1 f4
  replace H := f4.heap H
  replace f := f.trans f4
  have hn4 : ∀ j u, ([.int .i64 71, .int .i64 0, .int .i64 0, .int .i64 0, .int .i64 72, .int .i64 0, .int .i64 0, .int .i64 0] : List Value)[j]? = some u → w4.cell? ((⟨g4, 0, none⟩ : Addr).add j) = some u := fun j u hj => by
    rw [Lib.add_plain, Nat.zero_add]
    exact blk_cell H4 (by simpa using hj)
  have hcap3 : 0 + 2 ≤ maxLen := by unfold maxLen; omega
  refine Lib.hid ?_
  go_wp2_with (at_builtin; go_loud (refine wpList_append_own _ rfl (.tmp 9) (.tmp 12) 23 rfl (g + 1) 29 i0 _ 4 32 Tryd.underlying23 hi0 hz0 hz1 hz2 rfl (by decide) (.slice (some ⟨g2, 0, none⟩) 0 0) 0 [] (by simp [Act.eval]) hown1 ⟨g4, 0, none⟩ 2 2 [.int .i64 71, .int .i64 0, .int .i64 0, .int .i64 0, .int .i64 72, .int .i64 0, .int .i64 0, .int .i64 0] rfl rfl hn4 (by simp [Value.oneCell']) hcap3 (by omega) (by omega) ?_); intro v2 w5 hown2 hgr2 hnil2; refine Hid.out ?_)
  obtain ⟨g5, cap5, rfl, hb5, hl5, hc5⟩ := own_some hown2 (fun e => by have := (hnil2.1 e).1; simp [Act.eval] at this)
  clear hnil2
  have hr2 : ∀ k, (Value.slice (some ⟨g2, 0, none⟩) 0 0).ownBlock = some k → w.heap.size ≤ k := fun k hk => by have := own_base' hown1 k hk; omega
  have hgr : w4.grownBy w5 (Value.slice (some ⟨g2, 0, none⟩) 0 0).ownBlock := by simpa [Act.eval] using hgr2
  replace H := grown_blk hgr H (by simp [Value.ownBlock]; omega)
  have fk := f.row hw hgr hr2
  clear hgr hgr2 hr2 hown1 hn4 H4 f4
  replace f := fk
  clear fk
  obtain ⟨c0, c1, c2, c3, c4, c5, c6⟩ := blk7 H
  obtain ⟨w6, g6, hg6, hw6, f6, hz6, H6⟩ := boxedN f.ok #[.int .u64 fl, .int .i64 ct, .int .i64 lv, .int .i64 us, .int .i64 bd, .bool sv, .slice (some ⟨g5, 0, none⟩) 0 cap5] 25
  have hown := own_fr hown2 f6
  have hgg : g < g6 := by have := (Array.getElem?_eq_some_iff.1 H).1; omega
  replace H := f6.heap H
  have fR : FRow w6 (some ⟨g5, 0, none⟩) [] := .inl rfl
  have e1 : w6.cell? ⟨g5, 0, none⟩ = some (.int .i64 71) := by
    have := hown.cells (g := g5) rfl 0 (.int .i64 71) rfl
    rwa [Lib.add_plain, Nat.zero_add] at this
  have e2 : w6.cell? ⟨g5, 4, none⟩ = some (.int .i64 72) := by
    have := hown.cells (g := g5) rfl 4 (.int .i64 72) rfl
    rwa [Lib.add_plain, Nat.zero_add] at this
  clear hown hown2
  replace f := f.trans f6
  clear f6
  obtain ⟨d0, d1, d2, d3, d4, d5, d6⟩ := blk7 H6
  refine Lib.hid ?_
  go_wp2_with (first
    | (go_at_call 6; refine (progShow ⟨fl, ct, lv, us, bd, sv, []⟩ (some ⟨g5, 0, none⟩) cap5 _ f.ok hr fR (by simp)).mono ?_; rintro e wq ⟨rfl, q⟩; replace H := q.heap H; replace H6 := q.heap H6; replace fR := fR.fr q; replace e1 := q.cell e1; replace e2 := q.cell e2; replace f := f.trans q; clear q c0 c1 c2 c3 c4 c5 c6 d0 d1 d2 d3 d4 d5 d6; obtain ⟨c0, c1, c2, c3, c4, c5, c6⟩ := blk7 H; obtain ⟨d0, d1, d2, d3, d4, d5, d6⟩ := blk7 H6)
    | (go_at_call 7; refine (refShow ⟨fl, ct, lv, us, bd, sv, []⟩ none 0 _ f.ok hr (.inl rfl) (by simp)).mono ?_; rintro e wq ⟨rfl, q⟩; replace H := q.heap H; replace H6 := q.heap H6; replace fR := fR.fr q; replace e1 := q.cell e1; replace e2 := q.cell e2; replace f := f.trans q; clear q c0 c1 c2 c3 c4 c5 c6 d0 d1 d2 d3 d4 d5 d6; obtain ⟨c0, c1, c2, c3, c4, c5, c6⟩ := blk7 H; obtain ⟨d0, d1, d2, d3, d4, d5, d6⟩ := blk7 H6)
    | (go_at_call 8; refine (same_any ⟨fl, ct, lv, us, bd, sv, []⟩ ⟨fl, ct, lv, us, bd, sv, []⟩ (some ⟨g5, 0, none⟩) none cap5 0 _ f.ok fR (.inl rfl) (by simp)).mono ?_; rintro e wq ⟨rfl, q⟩; replace H := q.heap H; replace H6 := q.heap H6; replace e1 := q.cell e1; replace e2 := q.cell e2; replace f := f.trans q; rw [sameR_refl]; clear q c0 c1 c2 c3 c4 c5 c6 d0 d1 d2 d3 d4 d5 d6; obtain ⟨c0, c1, c2, c3, c4, c5, c6⟩ := blk7 H; obtain ⟨d0, d1, d2, d3, d4, d5, d6⟩ := blk7 H6))
  go_ret
  exact ⟨rfl, f⟩
end Go.Proofs.YtioapjnaopnhaaaDoor
