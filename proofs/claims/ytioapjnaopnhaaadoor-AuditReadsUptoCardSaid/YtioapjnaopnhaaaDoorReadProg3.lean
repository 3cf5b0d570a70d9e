/- audit.Read, walked whole: the body. No conditions beyond the text's length. -/
import Derived.Test.YtioapjnaopnhaaaDoorReadProg2
import Derived.Test.YtioapjnaopnhaaaDoorRegionDie
import Derived.Test.YtioapjnaopnhaaaDoorRegionT
import Derived.Test.YtioapjnaopnhaaaDoorAuditShowsWalk
import Derived.Deep.QuietTactic
set_option linter.unusedSimpArgs false
set_option linter.unusedVariables false
namespace Go.Proofs.YtioapjnaopnhaaaDoor
open Go.RowKit Go.Proofs

set_option maxHeartbeats 12800000 in
set_option maxRecDepth 100000 in
theorem read_go (t : List UInt8) (w : World) (hw : Ok w) (hm : More w) (ht : t.length ≤ 1073741824) (hsz : 9 ≤ w.heap.size) :
    Calls Tryd.prog 10 #[.string ⟨t.toArray⟩] w fun e w' => Fr w w' ∧ endRead w.heap.size (readL t) e w' := by
  have hmf : ∀ (fn : Fn) (first cap : Array Value) (w : World), (Instr.makeFunc fn first cap).run Tryd.prog w = .ok (.func fn first cap) w := fun _ _ _ _ => rfl
  obtain ⟨w1, g, hg, hw1, f1, hz1, H⟩ := boxedH hw #[.int .u64 0, .int .i64 0, .int .i64 0, .int .i64 0, .int .i64 0, .bool false, .slice none 0 0] 25
  obtain ⟨w2, g1, hg1, hw2, f2, hz2, HE⟩ := boxedH f1.ok #[.int .i64 0] 35
  obtain ⟨w3, g2, hg2, hw3, f3, hz3, HN⟩ := boxedH f2.ok #[.int .i64 0] 3
  obtain ⟨w4, g3, hg3, hw4, f4, hz4, HL⟩ := boxedH f3.ok #[.string ⟨t.toArray⟩, .int .i64 0] 68
  have l1 : g < g1 := by omega
  have l2 : g1 < g2 := by omega
  have l3 : g2 < g3 := by omega
  have hB : w.heap.size ≤ g := by omega
  clear hz1 hz2 hz3 hz4
  replace HE := f4.heap (f3.heap HE)
  replace H := f4.heap (f3.heap (f2.heap H))
  replace HN := f4.heap HN
  have f := ((f1.trans f2).trans f3).trans f4
  have m4 := hm.fr f
  clear f1 f2 f3 f4
  have hlt3 : g3 < w4.heap.size := (Array.getElem?_eq_some_iff.1 HL).1
  go_enter_defers Tryd.func10, Tryd.ntmps10
  go_wp2_with (first
    | (go_at_call 29; refine (next2_or g3 t 0 w4 f.ok m4 HL (by omega) (by omega) (by omega)).mono ?_; rintro e wq ⟨q, ⟨hnx, rfl⟩ | ⟨x, y, b, s, hnx, HL', hs, e0, e1, lx, ly, lb, rfl⟩⟩ <;> replace f := q.fr f (by omega) <;> have m := q.more <;> replace H := q.heap H (by omega) <;> replace HE := q.heap HE (by omega) <;> replace HN := q.heap HN (by omega) <;> try (replace HL := HL'))
    | (go_at_call 30; refine (parseU_any y _ f.ok m (by omega)).mono ?_; rintro e wr ⟨q2, ⟨u, hu, rfl⟩ | ⟨hu, u, N, rfl⟩⟩ <;> replace f := f.trans q2 <;> replace m := m.fr q2 <;> replace H := q2.heap H <;> replace HE := q2.heap HE <;> replace HN := q2.heap HN <;> replace HL := q2.heap HL <;> replace e0 := q2.cell e0 <;> replace e1 := q2.cell e1))
  · have hfl : floorL t = none := by unfold floorL; rw [hnx]
    rw [readL_e1 hfl]
    exact door_bad _ g g1 g2 l1 l2 1 w wq f m (by omega) hB rfl rfl rfl _ _ _ _ _ _ _ _ _ H HE HN
  · have hfl : floorL t = if x = [102, 108, 111, 111, 114] then (canU y).map (fun n => (n, b)) else none := by unfold floorL; rw [hnx]; rfl
    have hcu : canU y = if Lib.itoa (u : Int) = y then some u else none := by unfold canU; rw [hu]
    have hU : U64 (u : Int) := ⟨by omega, by have := parseB_le hu; omega⟩
    clear hu hnx
    by_cases hx : x = [102, 108, 111, 111, 114]
    · have hx1 : (x == [102, 108, 111, 111, 114]) = true := by simpa using hx
      rw [if_pos hx, hcu] at hfl
      clear hcu hx
      by_cases hy : Lib.itoa (u : Int) = y
      · have hy1 : (Lib.itoa (u : Int) == y) = true := by simpa using hy
        rw [if_pos hy] at hfl
        replace hfl : floorL t = some (u, b) := hfl
        clear hy
        replace hfl := Lib.hid hfl
        have r_e0 := cell_regrown e0
        have r_e1 := cell_regrown e1
        refine wp_region_quiet_below (by kernel_rfl) (by kernel_rfl) ?_
        repeat (go_big_quiet_step (first | (go_at_call 17; exact qfr (FormatUint _ (by assumption) _ (okR f.ok _ _)))))
        refine wpQuiet_nil ?_
        intro wq hwq
        have q := Fr.regrown f.ok hwq
        clear hwq r_e0 r_e1
        replace e0 := q.cell e0
        replace e1 := q.cell e1
        replace H := q.heap H; replace HE := q.heap HE; replace HN := q.heap HN; replace HL := q.heap HL; replace m := m.fr q
        replace f := f.trans q
        clear q
        obtain ⟨ws0, hws0, H5, f5, m5, o5, p5⟩ := setF f m hB hsz H 0 (.int .u64 u)
        have z0 := unfrozen H 0
        obtain ⟨c0, c1, c2, c3, c4, c5, c6⟩ := blk7 H
        replace HE := o5 _ _ HE (by omega)
        replace HN := o5 _ _ HN (by omega)
        replace HL := o5 _ _ HL (by omega)
        simp only [List.setIfInBounds_toArray, List.set_cons_zero, List.set_cons_succ] at H5
        replace H := H5
        replace f := f5
        replace m := m5
        clear H5 f5 m5 o5 p5
        clear e0 e1
        go_wp2_with (first
          | (go_at_call 31; refine (count_or g3 [99, 111, 117, 110, 116, 101, 100] b _ _ f.ok m HL (by omega) (by omega) (by omega)).mono ?_; rintro e wq1 ⟨q1, ⟨hc1, rfl⟩ | ⟨v1, b1, hc1, HL', lb1, rfl⟩⟩ <;> replace f := q1.fr f (by omega) <;> replace m := q1.more <;> replace H := q1.heap H (by omega) <;> replace HE := q1.heap HE (by omega) <;> replace HN := q1.heap HN (by omega) <;> try (replace HL := HL'; clear HL'; obtain ⟨ws1, hws1, H5, f5, m5, o5, p5⟩ := setF f m hB hsz H 1 (.int .i64 v1); have z1 := unfrozen H 1; obtain ⟨c0, c1, c2, c3, c4, c5, c6⟩ := blk7 H; replace HE := o5 _ _ HE (by omega); replace HN := o5 _ _ HN (by omega); replace HL := o5 _ _ HL (by omega); simp only [List.setIfInBounds_toArray, List.set_cons_zero, List.set_cons_succ] at H5; replace H := H5; replace f := f5; replace m := m5; clear H5 f5 m5 o5 p5))
          | (go_at_call 31; refine (count_or g3 [108, 105, 118, 101] b1 _ _ f.ok m HL (by omega) (by omega) (by omega)).mono ?_; rintro e wq2 ⟨q2, ⟨hc2, rfl⟩ | ⟨v2, b2, hc2, HL', lb2, rfl⟩⟩ <;> replace f := q2.fr f (by omega) <;> replace m := q2.more <;> replace H := q2.heap H (by omega) <;> replace HE := q2.heap HE (by omega) <;> replace HN := q2.heap HN (by omega) <;> try (replace HL := HL'; clear HL'; obtain ⟨ws2, hws2, H5, f5, m5, o5, p5⟩ := setF f m hB hsz H 2 (.int .i64 v2); have z2 := unfrozen H 2; obtain ⟨c0, c1, c2, c3, c4, c5, c6⟩ := blk7 H; replace HE := o5 _ _ HE (by omega); replace HN := o5 _ _ HN (by omega); replace HL := o5 _ _ HL (by omega); simp only [List.setIfInBounds_toArray, List.set_cons_zero, List.set_cons_succ] at H5; replace H := H5; replace f := f5; replace m := m5; clear H5 f5 m5 o5 p5))
          | (go_at_call 31; refine (count_or g3 [117, 115, 101, 100] b2 _ _ f.ok m HL (by omega) (by omega) (by omega)).mono ?_; rintro e wq3 ⟨q3, ⟨hc3, rfl⟩ | ⟨v3, b3, hc3, HL', lb3, rfl⟩⟩ <;> replace f := q3.fr f (by omega) <;> replace m := q3.more <;> replace H := q3.heap H (by omega) <;> replace HE := q3.heap HE (by omega) <;> replace HN := q3.heap HN (by omega) <;> try (replace HL := HL'; clear HL'; obtain ⟨ws3, hws3, H5, f5, m5, o5, p5⟩ := setF f m hB hsz H 3 (.int .i64 v3); have z3 := unfrozen H 3; obtain ⟨c0, c1, c2, c3, c4, c5, c6⟩ := blk7 H; replace HE := o5 _ _ HE (by omega); replace HN := o5 _ _ HN (by omega); replace HL := o5 _ _ HL (by omega); simp only [List.setIfInBounds_toArray, List.set_cons_zero, List.set_cons_succ] at H5; replace H := H5; replace f := f5; replace m := m5; clear H5 f5 m5 o5 p5))
          | (go_at_call 31; refine (count_or g3 [98, 97, 100] b3 _ _ f.ok m HL (by omega) (by omega) (by omega)).mono ?_; rintro e wq4 ⟨q4, ⟨hc4, rfl⟩ | ⟨v4, b4, hc4, HL', lb4, rfl⟩⟩ <;> replace f := q4.fr f (by omega) <;> replace m := q4.more <;> replace H := q4.heap H (by omega) <;> replace HE := q4.heap HE (by omega) <;> replace HN := q4.heap HN (by omega) <;> try (replace HL := HL'; clear HL'; obtain ⟨ws4, hws4, H5, f5, m5, o5, p5⟩ := setF f m hB hsz H 4 (.int .i64 v4); have z4 := unfrozen H 4; obtain ⟨c0, c1, c2, c3, c4, c5, c6⟩ := blk7 H; replace HE := o5 _ _ HE (by omega); replace HN := o5 _ _ HN (by omega); replace HL := o5 _ _ HL (by omega); simp only [List.setIfInBounds_toArray, List.set_cons_zero, List.set_cons_succ] at H5; replace H := H5; replace f := f5; replace m := m5; clear H5 f5 m5 o5 p5))
          | (go_at_call 29; have gl := (Array.getElem?_eq_some_iff.1 H).1; refine (next2_or g3 b4 _ _ f.ok m HL (by omega) (by omega) (by omega)).mono ?_; rintro e wq5 ⟨q5, ⟨hn5, rfl⟩ | ⟨x5, y5, b5, s5, hn5, HL', hs5, e0, e1, lx5, ly5, lb5, rfl⟩⟩ <;> replace f := q5.fr f (by omega) <;> replace m := q5.more <;> replace H := q5.heap H (by omega) <;> replace HE := q5.heap HE (by omega) <;> replace HN := q5.heap HN (by omega) <;> try (replace HL := HL'; clear HL'; have n5 : s5 ≠ g := (by omega); obtain ⟨ws5, hws5, H5, f5, m5, o5, p5⟩ := setF f m hB hsz H 5 (.bool (y5 == [121, 101, 115])); have z5 := unfrozen H 5; obtain ⟨c0, c1, c2, c3, c4, c5, c6⟩ := blk7 H; replace HE := o5 _ _ HE (by omega); replace HN := o5 _ _ HN (by omega); replace HL := o5 _ _ HL (by omega); simp only [List.setIfInBounds_toArray, List.set_cons_zero, List.set_cons_succ] at H5; replace H := H5; replace f := f5; replace m := m5; clear H5 f5 m5 o5; have e2 := p5 _ _ e0 n5; have e3 := p5 _ _ e1 n5; clear p5; have k5 := (blk7 H).2.2.2.2.2.1; obtain ⟨t0, t1⟩ := blk2 HL; rcases sav_cases hn5 with ⟨hx1, hsv⟩ | ⟨hx1, hy1, hy2, hsv⟩ | ⟨hx1, hy1, hsv⟩ | ⟨hx1, hy1, hy2, hsv⟩ <;> try rw [hy1] at hws5 H k5)))
        all_goals try (first
          | (rw [readL_e2 hfl.out hc1]; exact door_bad _ g g1 g2 l1 l2 2 w _ f m (by omega) hB rfl rfl rfl _ _ _ _ _ _ _ _ _ H HE HN)
          | (rw [readL_e3 hfl.out hc1 hc2]; exact door_bad _ g g1 g2 l1 l2 3 w _ f m (by omega) hB rfl rfl rfl _ _ _ _ _ _ _ _ _ H HE HN)
          | (rw [readL_e4 hfl.out hc1 hc2 hc3]; exact door_bad _ g g1 g2 l1 l2 4 w _ f m (by omega) hB rfl rfl rfl _ _ _ _ _ _ _ _ _ H HE HN)
          | (rw [readL_e5 hfl.out hc1 hc2 hc3 hc4]; exact door_bad _ g g1 g2 l1 l2 5 w _ f m (by omega) hB rfl rfl rfl _ _ _ _ _ _ _ _ _ H HE HN)
          | (rw [readL_e6 hfl.out hc1 hc2 hc3 hc4 hsv]; exact door_bad _ g g1 g2 l1 l2 6 w _ f m (by omega) hB rfl rfl rfl _ _ _ _ _ _ _ _ _ H HE HN)
          | (rw [readL_e6 hfl.out hc1 hc2 hc3 hc4 (by unfold savL; rw [hn5])]; exact door_bad _ g g1 g2 l1 l2 6 w _ f m (by omega) hB rfl rfl rfl _ _ _ _ _ _ _ _ _ H HE HN))
        all_goals (
          obtain ⟨sv, Hs, hsv2⟩ : ∃ sv : Bool, ws5.heap[g]? = some (.cells #[.int .u64 u, .int .i64 v1, .int .i64 v2, .int .i64 v3, .int .i64 v4, .bool sv, .slice none 0 0] 25 (0, 0)) ∧ savL b4 = some (sv, b5) := ⟨_, H, hsv⟩
          have hgo := Lib.hid (readL_go hfl.out hc1 hc2 hc3 hc4 hsv2)
          have hbl : b5.length ≤ 1073741824 := by omega
          have hgs : g3 < ws5.heap.size := (Array.getElem?_eq_some_iff.1 HL).1
          clear H hsv hsv2 hfl hc1 hc2 hc3 hc4 hws0 hws1 hws2 hws3 hws4 hws5 z0 z1 z2 z3 z4 z5 c0 c1 c2 c3 c4 c5 c6 e0 e1 e2 e3 k5 t0 t1 hx1 hw1 hw2 hw3 hw4 hg hg1 hg2 hg3 hn5
          try clear hy2
          clear hy1
          go_loopw [9] (fun _ W => ∃ (fs : List Fnd) (a : Option Addr) (c : Nat) (bb : List UInt8) (fuel : Nat), bb.length ≤ fuel ∧ bb.length + fs.length ≤ b5.length ∧ finsL b5.length 7 b5 = glue fs (finsL fuel (7 + fs.length) bb) ∧
            W.heap[g]? = some (.cells #[.int .u64 u, .int .i64 v1, .int .i64 v2, .int .i64 v3, .int .i64 v4, .bool sv, .slice a fs.length c] 25 (0, 0)) ∧ W.heap[g1]? = some (.cells #[.int .i64 0] 35 (0, 0)) ∧ W.heap[g2]? = some (.cells #[.int .i64 0] 3 (0, 0)) ∧
            W.heap[g3]? = some (.cells #[.string ⟨bb.toArray⟩, .int .i64 ((6 + fs.length : Nat) : Int)] 68 (0, 0)) ∧ Fr w W ∧ More W ∧ W.ownsRow (g3 + 1) 29 4 (.slice a fs.length c) fs.length (frow fs)) (fun _ W => txtLen g3 W)
          case atStart => exact ⟨[], none, 0, b5, b5.length, Nat.le_refl _, by simp, (glue_nil _).symm, Hs, HE, HN, HL, f, m, ⟨by simp [frow], .inl ⟨rfl, rfl⟩⟩⟩
          case round =>
            obtain ⟨fs, a, c, bb, fuel, h1, h2, h3, H, HE, HN, HL, f, m, hown⟩ := hrel
            have gl3 : g3 < wr.heap.size := (Array.getElem?_eq_some_iff.1 HL).1
            have htl := Lib.hid (txtLen_of HL)
            obtain ⟨t0, t1⟩ := blk2 HL
            by_cases hb : bb = []
            · subst hb
              have hfin : finsL fuel (7 + fs.length) [] = .ok [] := by cases fuel <;> simp [finsL]
              have hr : readL t = .ok ⟨(u : Int), v1, v2, v3, v4, sv, fs⟩ := by rw [hgo.out, h3, hfin]; simp [glue, endFins]
              replace hr := Lib.hid hr
              have i0 := set_idem H 0 (.int .u64 u) rfl
              have i1 := set_idem H 1 (.int .i64 v1) rfl
              have i2 := set_idem H 2 (.int .i64 v2) rfl
              have i3 := set_idem H 3 (.int .i64 v3) rfl
              have i4 := set_idem H 4 (.int .i64 v4) rfl
              have i5 := set_idem H 5 (.bool sv) rfl
              have i6 := set_idem H 6 (.slice a fs.length c) rfl
              have i7 := set_idem HE 0 (.int .i64 0) rfl
              have i8 := set_idem HN 0 (.int .i64 0) rfl
              obtain ⟨c0, c1, c2, c3, c4, c5, c6⟩ := blk7 H
              have d0 := blk1 HE
              have d1 := blk1 HN
              have y0 := unfrozen H
              have y1 := unfrozen HE
              have y2 := unfrozen HN
              go_wp2_with fail
              have hT : ∀ (T : Array Value) (ds : List Deferred), T[2]? = some (.pointer (some ⟨g, 0, none⟩)) → T[3]? = some (.pointer (some ⟨g1, 0, none⟩)) → T[4]? = some (.pointer (some ⟨g2, 0, none⟩)) → ds = [{ target := .fn (.func 28) #[.pointer (some ⟨g, 0, none⟩), .pointer (some ⟨g1, 0, none⟩), .pointer (some ⟨g2, 0, none⟩)], args := #[] }] → Leaves Tryd.prog Tryd.f10 T (fun e w' => Fr w w' ∧ endRead w.heap.size (readL t) e w') ds .returning wr := fun T ds h2 h3 h4 hd => by
                subst hd
                exact door_ok T g g1 g2 _ ⟨(u : Int), v1, v2, v3, v4, sv, fs⟩ hr.out a c w wr f h2 h3 h4 H HE HN (g3 + 1) (by omega) hown
              clear i0 i1 i2 i3 i4 i5 i6 i7 i8 H HE HN hown
              exact hT _ _ rfl rfl rfl rfl
            · have hb1 : (bb == []) = false := by simpa using hb
              have hpos : 1 ≤ bb.length := by cases bb with | nil => exact absurd rfl hb | cons => simp
              obtain ⟨fuel, rfl⟩ : ∃ k, fuel = k + 1 := ⟨fuel - 1, by omega⟩
              have hstep : finsL (fuel + 1) (7 + fs.length) bb = match finL bb with | none => .error (7 + fs.length) | some p => match finsL fuel (7 + fs.length + 1) p.2 with | .error m => .error m | .ok gs => .ok (p.1 :: gs) := by
                simp only [finsL]
                rw [if_neg hb]
                cases finL bb with
                | none => rfl
                | some p => dsimp only; cases finsL fuel (7 + fs.length + 1) p.2 <;> rfl
              have hbad : finL bb = none → readL t = .error (7 + fs.length) := fun h => by rw [hgo.out, h3, hstep, h]; rfl
              replace hbad := Lib.hid hbad
              replace h3 := Lib.hid h3
              replace hstep := Lib.hid hstep
              clear hgo
              go_wp2_with (first
                | (go_at_call 29; (have gl := (Array.getElem?_eq_some_iff.1 H).1; refine (next4_or g3 bb _ _ f.ok m HL (by omega) (by omega) (by omega)).mono ?_; rintro e wq6 ⟨q6, ⟨hn6, rfl⟩ | ⟨x6, y6, z6, u6, b6, s6, hn6, HL', hs6, e0, e1, e2, e3, lx6, ly6, lz6, lu6, lb6, rfl⟩⟩ <;> replace f := q6.fr f (by omega) <;> replace m := q6.more <;> replace H := q6.heap H (by omega) <;> replace HE := q6.heap HE (by omega) <;> replace HN := q6.heap HN (by omega) <;> replace hown := own_fe hown q6 (by omega) <;> try (replace HL := HL'; clear HL'))))
              · have hr := Lib.hid (hbad.out (by unfold finL; rw [hn6]))
                have hT : ∀ (T : Array Value) (ds : List Deferred), T[2]? = some (.pointer (some ⟨g, 0, none⟩)) → T[3]? = some (.pointer (some ⟨g1, 0, none⟩)) → T[4]? = some (.pointer (some ⟨g2, 0, none⟩)) → ds = [{ target := .fn (.func 28) #[.pointer (some ⟨g, 0, none⟩), .pointer (some ⟨g1, 0, none⟩), .pointer (some ⟨g2, 0, none⟩)], args := #[] }] → Leaves Tryd.prog Tryd.f10 T (fun e w' => Fr w w' ∧ endRead w.heap.size (readL t) e w') ds (.panicking [{ v := .iface 64 (.int .i64 (((6 + fs.length : Nat) : Int) + 1)), recovered := false }]) wq6 := fun T ds h2 h3 h4 hds => by
                  subst hds
                  rw [hr.out, show ((6 + fs.length : Nat) : Int) + 1 = ((7 + fs.length : Nat) : Int) by omega]
                  exact door_bad T g g1 g2 l1 l2 (7 + fs.length) w wq6 f m (by omega) hB h2 h3 h4 _ _ _ _ _ _ _ _ _ H HE HN
                clear H HE HN hown
                exact hT _ _ rfl rfl rfl rfl
              · have hfin : finL bb = match kindL x6 with | none => none | some k => match canI y6 with | none => none | some b => match canI z6 with | none => none | some q => match canI u6 with | none => none | some o => some (⟨k, b, q, o⟩, b6) := by unfold finL; rw [hn6]; rfl
                clear hn6
                cases hk6 : kindL x6 with
                | none =>
                  have hfx : finL bb = none := by rw [hfin, hk6]
                  clear hfin
                  have hr := Lib.hid (hbad.out hfx)
                  refine Reg.wp_region_dies_below [2, 3, 4] 6 [true, true, true, true, true, true, false, true, true, true, true, false, true, true, true, true, false, false, true, true, true, true] [{ v := .iface 64 (.int .i64 (((6 + fs.length : Nat) : Int) + 1)), recovered := false }] (by kernel_rfl) (by kernel_rfl) _ rfl ?_ ?_
                  · intro a' w' hc hk
                    have q := Fr.regrown f.ok hc
                    obtain ⟨hd, hk⟩ := hk
                    have hT : ∀ ds, ds = [{ target := .fn (.func 28) #[.pointer (some ⟨g, 0, none⟩), .pointer (some ⟨g1, 0, none⟩), .pointer (some ⟨g2, 0, none⟩)], args := #[] }] → Leaves Tryd.prog Tryd.f10 a'.tmps (fun e w' => Fr w w' ∧ endRead w.heap.size (readL t) e w') ds (.panicking [{ v := .iface 64 (.int .i64 (((6 + fs.length : Nat) : Int) + 1)), recovered := false }]) w' := fun ds hds => by
                      subst hds
                      rw [hr.out, show ((6 + fs.length : Nat) : Int) + 1 = ((7 + fs.length : Nat) : Int) by omega]
                      exact door_bad a'.tmps g g1 g2 l1 l2 (7 + fs.length) w w' (f.trans q) (m.fr q) (by omega) hB (hk 2 (by simp)) (hk 3 (by simp)) (hk 4 (by simp)) _ _ _ _ _ _ _ _ _ (q.heap H) (q.heap HE) (q.heap HN)
                    exact hT _ hd
                  · simp only [Reg.pickM]
                    obtain ⟨c0, c1, c2, c3, c4, c5, c6⟩ := blk7 H
                    have r_c6 := cell_regrown c6
                    have r_e0 := cell_regrown e0
                    have r_e1 := cell_regrown e1
                    have r_e2 := cell_regrown e2
                    have r_e3 := cell_regrown e3
                    repeat (go_big_quiet_step (first | (go_at_call 32; exact kindQ f.ok m HL (by omega) hk6) | (go_at_call 33; first | exact numQ f.ok m HL (by omega) hk7 | exact numQ f.ok m HL (by omega) hk8 | exact numQ f.ok m HL (by omega) hk9)))
                    refine wpQuiet_nil ?_
                    refine ⟨⟨rfl, ?_⟩, rfl, ?_⟩
                    · rintro w' ⟨p, rfl⟩
                      simp [go_sem, Reg.dieUpon]
                      exact kindX f.ok m HL (by omega) hk6
                    · intro k hk
                      simp only [List.mem_cons, List.not_mem_nil, or_false] at hk
                      rcases hk with rfl | rfl | rfl <;> rfl
                | some k6 =>
                  cases hk7 : canI y6 with
                  | none =>
                    have hfx : finL bb = none := by rw [hfin, hk6]; dsimp only; rw [hk7]
                    clear hfin
                    have hr := Lib.hid (hbad.out hfx)
                    refine Reg.wp_region_dies_below [2, 3, 4] 11 [true, true, true, true, true, true, true, true, true, true, true, false, true, true, true, true, false, false, true, true, true, true] [{ v := .iface 64 (.int .i64 (((6 + fs.length : Nat) : Int) + 1)), recovered := false }] (by kernel_rfl) (by kernel_rfl) _ rfl ?_ ?_
                    · intro a' w' hc hk
                      have q := Fr.regrown f.ok hc
                      obtain ⟨hd, hk⟩ := hk
                      have hT : ∀ ds, ds = [{ target := .fn (.func 28) #[.pointer (some ⟨g, 0, none⟩), .pointer (some ⟨g1, 0, none⟩), .pointer (some ⟨g2, 0, none⟩)], args := #[] }] → Leaves Tryd.prog Tryd.f10 a'.tmps (fun e w' => Fr w w' ∧ endRead w.heap.size (readL t) e w') ds (.panicking [{ v := .iface 64 (.int .i64 (((6 + fs.length : Nat) : Int) + 1)), recovered := false }]) w' := fun ds hds => by
                        subst hds
                        rw [hr.out, show ((6 + fs.length : Nat) : Int) + 1 = ((7 + fs.length : Nat) : Int) by omega]
                        exact door_bad a'.tmps g g1 g2 l1 l2 (7 + fs.length) w w' (f.trans q) (m.fr q) (by omega) hB (hk 2 (by simp)) (hk 3 (by simp)) (hk 4 (by simp)) _ _ _ _ _ _ _ _ _ (q.heap H) (q.heap HE) (q.heap HN)
                      exact hT _ hd
                    · simp only [Reg.pickM]
                      obtain ⟨c0, c1, c2, c3, c4, c5, c6⟩ := blk7 H
                      have r_c6 := cell_regrown c6
                      have r_e0 := cell_regrown e0
                      have r_e1 := cell_regrown e1
                      have r_e2 := cell_regrown e2
                      have r_e3 := cell_regrown e3
                      repeat (go_big_quiet_step (first | (go_at_call 32; exact kindQ f.ok m HL (by omega) hk6) | (go_at_call 33; first | exact numQ f.ok m HL (by omega) hk7 | exact numQ f.ok m HL (by omega) hk8 | exact numQ f.ok m HL (by omega) hk9)))
                      refine wpQuiet_nil ?_
                      refine ⟨⟨rfl, ?_⟩, rfl, ?_⟩
                      · rintro w' ⟨p, rfl⟩
                        simp [go_sem, Reg.dieUpon]
                        exact numX f.ok m HL (by omega) hk7
                      · intro k hk
                        simp only [List.mem_cons, List.not_mem_nil, or_false] at hk
                        rcases hk with rfl | rfl | rfl <;> rfl
                  | some k7 =>
                    cases hk8 : canI z6 with
                    | none =>
                      have hfx : finL bb = none := by rw [hfin, hk6]; dsimp only; rw [hk7]; dsimp only; rw [hk8]
                      clear hfin
                      have hr := Lib.hid (hbad.out hfx)
                      refine Reg.wp_region_dies_below [2, 3, 4] 16 [true, true, true, true, true, true, true, true, true, true, true, true, true, true, true, true, false, false, true, true, true, true] [{ v := .iface 64 (.int .i64 (((6 + fs.length : Nat) : Int) + 1)), recovered := false }] (by kernel_rfl) (by kernel_rfl) _ rfl ?_ ?_
                      · intro a' w' hc hk
                        have q := Fr.regrown f.ok hc
                        obtain ⟨hd, hk⟩ := hk
                        have hT : ∀ ds, ds = [{ target := .fn (.func 28) #[.pointer (some ⟨g, 0, none⟩), .pointer (some ⟨g1, 0, none⟩), .pointer (some ⟨g2, 0, none⟩)], args := #[] }] → Leaves Tryd.prog Tryd.f10 a'.tmps (fun e w' => Fr w w' ∧ endRead w.heap.size (readL t) e w') ds (.panicking [{ v := .iface 64 (.int .i64 (((6 + fs.length : Nat) : Int) + 1)), recovered := false }]) w' := fun ds hds => by
                          subst hds
                          rw [hr.out, show ((6 + fs.length : Nat) : Int) + 1 = ((7 + fs.length : Nat) : Int) by omega]
                          exact door_bad a'.tmps g g1 g2 l1 l2 (7 + fs.length) w w' (f.trans q) (m.fr q) (by omega) hB (hk 2 (by simp)) (hk 3 (by simp)) (hk 4 (by simp)) _ _ _ _ _ _ _ _ _ (q.heap H) (q.heap HE) (q.heap HN)
                        exact hT _ hd
                      · simp only [Reg.pickM]
                        obtain ⟨c0, c1, c2, c3, c4, c5, c6⟩ := blk7 H
                        have r_c6 := cell_regrown c6
                        have r_e0 := cell_regrown e0
                        have r_e1 := cell_regrown e1
                        have r_e2 := cell_regrown e2
                        have r_e3 := cell_regrown e3
                        repeat (go_big_quiet_step (first | (go_at_call 32; exact kindQ f.ok m HL (by omega) hk6) | (go_at_call 33; first | exact numQ f.ok m HL (by omega) hk7 | exact numQ f.ok m HL (by omega) hk8 | exact numQ f.ok m HL (by omega) hk9)))
                        refine wpQuiet_nil ?_
                        refine ⟨⟨rfl, ?_⟩, rfl, ?_⟩
                        · rintro w' ⟨p, rfl⟩
                          simp [go_sem, Reg.dieUpon]
                          exact numX f.ok m HL (by omega) hk8
                        · intro k hk
                          simp only [List.mem_cons, List.not_mem_nil, or_false] at hk
                          rcases hk with rfl | rfl | rfl <;> rfl
                    | some k8 =>
                      cases hk9 : canI u6 with
                      | none =>
                        have hfx : finL bb = none := by rw [hfin, hk6]; dsimp only; rw [hk7]; dsimp only; rw [hk8]; dsimp only; rw [hk9]
                        clear hfin
                        have hr := Lib.hid (hbad.out hfx)
                        refine Reg.wp_region_dies_below [2, 3, 4] 22 [true, true, true, true, true, true, true, true, true, true, true, true, true, true, true, true, true, true, true, true, true, true] [{ v := .iface 64 (.int .i64 (((6 + fs.length : Nat) : Int) + 1)), recovered := false }] (by kernel_rfl) (by kernel_rfl) _ rfl ?_ ?_
                        · intro a' w' hc hk
                          have q := Fr.regrown f.ok hc
                          obtain ⟨hd, hk⟩ := hk
                          have hT : ∀ ds, ds = [{ target := .fn (.func 28) #[.pointer (some ⟨g, 0, none⟩), .pointer (some ⟨g1, 0, none⟩), .pointer (some ⟨g2, 0, none⟩)], args := #[] }] → Leaves Tryd.prog Tryd.f10 a'.tmps (fun e w' => Fr w w' ∧ endRead w.heap.size (readL t) e w') ds (.panicking [{ v := .iface 64 (.int .i64 (((6 + fs.length : Nat) : Int) + 1)), recovered := false }]) w' := fun ds hds => by
                            subst hds
                            rw [hr.out, show ((6 + fs.length : Nat) : Int) + 1 = ((7 + fs.length : Nat) : Int) by omega]
                            exact door_bad a'.tmps g g1 g2 l1 l2 (7 + fs.length) w w' (f.trans q) (m.fr q) (by omega) hB (hk 2 (by simp)) (hk 3 (by simp)) (hk 4 (by simp)) _ _ _ _ _ _ _ _ _ (q.heap H) (q.heap HE) (q.heap HN)
                          exact hT _ hd
                        · simp only [Reg.pickM]
                          obtain ⟨c0, c1, c2, c3, c4, c5, c6⟩ := blk7 H
                          have r_c6 := cell_regrown c6
                          have r_e0 := cell_regrown e0
                          have r_e1 := cell_regrown e1
                          have r_e2 := cell_regrown e2
                          have r_e3 := cell_regrown e3
                          repeat (go_big_quiet_step (first | (go_at_call 32; exact kindQ f.ok m HL (by omega) hk6) | (go_at_call 33; first | exact numQ f.ok m HL (by omega) hk7 | exact numQ f.ok m HL (by omega) hk8 | exact numQ f.ok m HL (by omega) hk9)))
                          refine wpQuiet_nil ?_
                          refine ⟨⟨rfl, ?_⟩, rfl, ?_⟩
                          · rintro w' ⟨p, rfl⟩
                            simp [go_sem, Reg.dieUpon]
                            exact numX f.ok m HL (by omega) hk9
                          · intro k hk
                            simp only [List.mem_cons, List.not_mem_nil, or_false] at hk
                            rcases hk with rfl | rfl | rfl <;> rfl
                      | some k9 =>
                        have hfx : finL bb = some (⟨k6, k7, k8, k9⟩, b6) := by rw [hfin, hk6]; dsimp only; rw [hk7]; dsimp only; rw [hk8]; dsimp only; rw [hk9]
                        clear hfin hbad
                        obtain ⟨i0, hi0, hzi0, hzi1, hzi2⟩ := info_parts infoF
                        obtain ⟨c0, c1, c2, c3, c4, c5, c6⟩ := blk7 H
                        refine Reg.wp_region_tailT_below 2 24 ⟨g, 6, none⟩ (.slice a fs.length c) (by kernel_rfl) (by kernel_rfl) _ rfl c6 ?_
                        simp only [List.take_succ_cons, List.take_zero, List.drop_succ_cons, List.drop_zero, Reg.wpEarlyT]
                        refine ⟨.pointer (some ⟨g, 6, none⟩), ⟨rfl, fun w' hS => by simp [go_sem]⟩, .slice a fs.length c, ⟨rfl, fun w' hS => by simp [go_sem, hS]⟩, ?_⟩
                        simp only [Act.eval, Act.put, List.getElem?_toArray, List.getElem?_cons_succ, List.getElem?_cons_zero, Option.getD_some, List.setIfInBounds_toArray, List.set_cons_succ, List.set_cons_zero]
                        have r_c6 := cell_regrown c6
                        have r_e0 := cell_regrown e0
                        have r_e1 := cell_regrown e1
                        have r_e2 := cell_regrown e2
                        have r_e3 := cell_regrown e3
                        repeat (go_big_quiet_step (first | (go_at_call 32; exact kindQ f.ok m HL (by omega) hk6) | (go_at_call 33; first | exact numQ f.ok m HL (by omega) hk7 | exact numQ f.ok m HL (by omega) hk8 | exact numQ f.ok m HL (by omega) hk9)))
                        refine wpQuiet_nil ?_
                        intro wq7 hc7
                        have q7 := Fr.regrown f.ok hc7
                        clear hc7 r_c6 r_e0 r_e1 r_e2 r_e3 c0 c1 c2 c3 c4 c5 c6
                        obtain ⟨w8, g8, hg8, hw8, f8, hz8, H8⟩ := boxedN q7.ok #[.int .i64 k6, .int .i64 k7, .int .i64 k8, .int .i64 k9] 29
                        refine ⟨rfl, .slice (some ⟨g8, 0, none⟩) 1 1, .cells #[.int .i64 k6, .int .i64 k7, .int .i64 k8, .int .i64 k9] 29, by simp [go_sem, hg8], ?_⟩
                        rw [hw8]
                        simp only [Act.put, List.setIfInBounds_toArray, List.set_cons_succ, List.set_cons_zero]
                        have q8 := q7.trans f8
                        replace f := f.trans q8
                        replace m := m.fr q8
                        replace H := q8.heap H
                        replace HE := q8.heap HE
                        replace HN := q8.heap HN
                        replace HL := q8.heap HL
                        replace hown := own_fr hown q8
                        clear q8 q7 f8
                        have hn8 : ∀ j u, (fcells ⟨k6, k7, k8, k9⟩)[j]? = some u → w8.cell? ((⟨g8, 0, none⟩ : Addr).add j) = some u := fun j u hj => by
                          rw [Lib.add_plain, Nat.zero_add]
                          exact blk_cell H8 (by simpa [fcells] using hj)
                        have hone8 : ∀ u ∈ fcells ⟨k6, k7, k8, k9⟩, u.oneCell' = true := by simp [fcells, Value.oneCell']
                        have hcap8 : fs.length + 1 ≤ maxLen := by unfold maxLen; omega
                        have gl8 : g3 < w8.heap.size := (Array.getElem?_eq_some_iff.1 HL).1
                        refine wpList_append_own _ rfl (.tmp 89) (.tmp 112) 23 rfl (g3 + 1) 29 i0 _ 4 32 Tryd.underlying23 hi0 hzi0 hzi1 hzi2 rfl (by decide) (.slice a fs.length c) fs.length (frow fs) rfl hown ⟨g8, 0, none⟩ 1 1 (fcells ⟨k6, k7, k8, k9⟩) rfl rfl hn8 hone8 hcap8 (by omega) (by omega) ?_
                        intro v9 w9 hown9 hgr9 hnil9
                        simp only [Act.put, List.setIfInBounds_toArray, List.set_cons_succ, List.set_cons_zero]
                        obtain ⟨g9, cap9, rfl, hb9, hl9, hc9⟩ := own_some hown9 (fun e => by have := (hnil9.1 e).2; cases this)
                        clear hnil9 hn8 hone8 hcap8
                        have hb8 := own_base' hown
                        have b9 : Below (g3 + 1) w8 w9 := (Below.refl (g3 + 1) w8).grown hgr9 (by omega) hb8
                        have hne : ∀ k, k ≤ g3 → some k ≠ (Value.slice a fs.length c).ownBlock := fun k hk e => by have := hb8 k e.symm; omega
                        replace H := grown_blk hgr9 H (hne g (by omega))
                        replace HE := grown_blk hgr9 HE (hne g1 (by omega))
                        replace HN := grown_blk hgr9 HN (hne g2 (by omega))
                        replace HL := grown_blk hgr9 HL (hne g3 (by omega))
                        replace f : Fr w w9 := ⟨f.below.trans (b9.mono (by omega)), f.ok.set (by omega) b9⟩
                        replace m := m.set (by omega) b9
                        clear hown hgr9 b9 hb8 hne H8
                        obtain ⟨ws9, hws9, H5, f5, m5, o5, p5⟩ := setF f m hB hsz H 6 (.slice (some ⟨g9, 0, none⟩) (fs.length + 1) cap9)
                        have z9 := unfrozen H 6
                        have k9c := (blk7 H).2.2.2.2.2.2
                        replace HE := o5 _ _ HE (by omega)
                        replace HN := o5 _ _ HN (by omega)
                        replace HL := o5 _ _ HL (by omega)
                        simp only [List.setIfInBounds_toArray, List.set_cons_zero, List.set_cons_succ] at H5
                        have hown5 : ws9.ownsRow (g3 + 1) 29 4 (.slice (some ⟨g9, 0, none⟩) (fs.length + 1) cap9) (fs.length + 1) (frow fs ++ fcells ⟨k6, k7, k8, k9⟩) := by
                          have hfe : Fe g w9 ws9 := by
                            refine ⟨?_, fun k hk hne => ?_, f5.ok, m5⟩
                            · rw [← hws9]; exact (Below.refl g w9).setCell (Nat.le_refl g) _
                            · rw [← hws9]; exact Below.heap_setCell w9 _ _ k hne
                          exact own_fe hown9 hfe (by omega)
                        clear p5 o5 H hown9
                        have e3 : (fs ++ [(⟨k6, k7, k8, k9⟩ : Fnd)]).length = fs.length + 1 := by simp
                        have e4 : finsL b5.length 7 b5 = glue (fs ++ [⟨k6, k7, k8, k9⟩]) (finsL fuel (7 + (fs ++ [(⟨k6, k7, k8, k9⟩ : Fnd)]).length) b6) := by
                          rw [h3.out, hstep.out, hfx, e3, ← Nat.add_assoc]
                          dsimp only
                          cases finsL fuel (7 + fs.length + 1) b6 <;> simp [glue]
                        have e5 : frow (fs ++ [⟨k6, k7, k8, k9⟩]) = frow fs ++ fcells ⟨k6, k7, k8, k9⟩ := by simp [frow]
                        have e6 : ((6 + (fs ++ [(⟨k6, k7, k8, k9⟩ : Fnd)]).length : Nat) : Int) = ((6 + fs.length : Nat) : Int) + 1 := by rw [e3]; omega
                        have REL := Lib.hid (show ∃ (fs' : List Fnd) (a : Option Addr) (c : Nat) (bb : List UInt8) (fuel : Nat), bb.length ≤ fuel ∧ bb.length + fs'.length ≤ b5.length ∧ finsL b5.length 7 b5 = glue fs' (finsL fuel (7 + fs'.length) bb) ∧
                                    ws9.heap[g]? = some (.cells #[.int .u64 u, .int .i64 v1, .int .i64 v2, .int .i64 v3, .int .i64 v4, .bool sv, .slice a fs'.length c] 25 (0, 0)) ∧ ws9.heap[g1]? = some (.cells #[.int .i64 0] 35 (0, 0)) ∧ ws9.heap[g2]? = some (.cells #[.int .i64 0] 3 (0, 0)) ∧
                                    ws9.heap[g3]? = some (.cells #[.string ⟨bb.toArray⟩, .int .i64 ((6 + fs'.length : Nat) : Int)] 68 (0, 0)) ∧ Fr w ws9 ∧ More ws9 ∧ ws9.ownsRow (g3 + 1) 29 4 (.slice a fs'.length c) fs'.length (frow fs') from
                          ⟨fs ++ [⟨k6, k7, k8, k9⟩], some ⟨g9, 0, none⟩, cap9, b6, fuel, by omega, by rw [e3]; omega, e4, by rw [e3]; exact H5, HE, HN, by rw [e6]; exact HL, f5, m5, by rw [e3, e5]; exact hown5⟩)
                        have MEAS := Lib.hid (show txtLen g3 ws9 < txtLen g3 wr by rw [htl.out, txtLen_of HL]; omega)
                        clear e3 e4 e5 e6 H5 HE HN HL f5 m5 hown5 hfx
                        go_wp2_with fail
                        refine NoPanic.normal ?_
                        go_roundw
                        case rel =>
                          iterate 35 (apply Exists.intro)
                          first | exact ⟨REL.out, rfl⟩ | (refine ⟨REL.out, ?_⟩; rfl)
                        case measure => exact MEAS.out)
      · have hy1 : (Lib.itoa (u : Int) == y) = false := by simpa using hy
        rw [if_neg hy] at hfl
        replace hfl : floorL t = none := hfl
        clear hy
        have r_e0 := cell_regrown e0
        have r_e1 := cell_regrown e1
        refine wp_region_quiet_below (by kernel_rfl) (by kernel_rfl) ?_
        repeat (go_big_quiet_step (first | (go_at_call 17; exact qfr (FormatUint _ (by assumption) _ (okR f.ok _ _)))))
        refine wpQuiet_nil ?_
        intro wq hwq
        have q := Fr.regrown f.ok hwq
        clear hwq r_e0 r_e1
        replace e0 := q.cell e0
        replace e1 := q.cell e1
        replace H := q.heap H; replace HE := q.heap HE; replace HN := q.heap HN; replace HL := q.heap HL; replace m := m.fr q
        replace f := f.trans q
        clear q
        go_wp2_with fail
        rw [readL_e1 hfl]
        exact door_bad _ g g1 g2 l1 l2 1 w _ f m (by omega) hB rfl rfl rfl _ _ _ _ _ _ _ _ _ H HE HN
    · have hx1 : (x == [102, 108, 111, 111, 114]) = false := by simpa using hx
      rw [if_neg hx] at hfl
      clear hx hcu
      have r_e0 := cell_regrown e0
      have r_e1 := cell_regrown e1
      refine wp_region_quiet_below (by kernel_rfl) (by kernel_rfl) ?_
      repeat (go_big_quiet_step (first | (go_at_call 17; exact qfr (FormatUint _ (by assumption) _ (okR f.ok _ _)))))
      refine wpQuiet_nil ?_
      intro wq hwq
      have q := Fr.regrown f.ok hwq
      clear hwq r_e0 r_e1
      replace e0 := q.cell e0
      replace e1 := q.cell e1
      replace H := q.heap H; replace HE := q.heap HE; replace HN := q.heap HN; replace HL := q.heap HL; replace m := m.fr q
      replace f := f.trans q
      clear q
      go_wp2_with fail
      rw [readL_e1 hfl]
      exact door_bad _ g g1 g2 l1 l2 1 w _ f m (by omega) hB rfl rfl rfl _ _ _ _ _ _ _ _ _ H HE HN
  · have hcu : canU y = none := by
      unfold canU
      cases h : Lib.parseUintB 64 y with
      | ok v => exact absurd h (hu v)
      | _ => rfl
    have hfl : floorL t = none := by unfold floorL; rw [hnx]; show (if x = [102, 108, 111, 111, 114] then (canU y).map _ else none) = none; rw [hcu]; split <;> rfl
    clear hu hnx hcu
    by_cases hx : x = [102, 108, 111, 111, 114]
    · have hx1 : (x == [102, 108, 111, 111, 114]) = true := by simpa using hx
      clear hx
      have r_e0 := cell_regrown e0
      have r_e1 := cell_regrown e1
      refine wp_region_quiet_below (by kernel_rfl) (by kernel_rfl) ?_
      repeat (go_big_quiet_step (first | (go_at_call 17; exact qfr (FormatUint _ (by assumption) _ (okR f.ok _ _)))))
      refine wpQuiet_nil ?_
      intro wq hwq
      have q := Fr.regrown f.ok hwq
      clear hwq r_e0 r_e1
      replace e0 := q.cell e0
      replace e1 := q.cell e1
      replace H := q.heap H; replace HE := q.heap HE; replace HN := q.heap HN; replace HL := q.heap HL; replace m := m.fr q
      replace f := f.trans q
      clear q
      go_wp2_with fail
      rw [readL_e1 hfl]
      exact door_bad _ g g1 g2 l1 l2 1 w _ f m (by omega) hB rfl rfl rfl _ _ _ _ _ _ _ _ _ H HE HN
    · have hx1 : (x == [102, 108, 111, 111, 114]) = false := by simpa using hx
      clear hx
      have r_e0 := cell_regrown e0
      have r_e1 := cell_regrown e1
      refine wp_region_quiet_below (by kernel_rfl) (by kernel_rfl) ?_
      repeat (go_big_quiet_step (first | (go_at_call 17; exact qfr (FormatUint _ (by assumption) _ (okR f.ok _ _)))))
      refine wpQuiet_nil ?_
      intro wq hwq
      have q := Fr.regrown f.ok hwq
      clear hwq r_e0 r_e1
      replace e0 := q.cell e0
      replace e1 := q.cell e1
      replace H := q.heap H; replace HE := q.heap HE; replace HN := q.heap HN; replace HL := q.heap HL; replace m := m.fr q
      replace f := f.trans q
      clear q
      go_wp2_with fail
      rw [readL_e1 hfl]
      exact door_bad _ g g1 g2 l1 l2 1 w _ f m (by omega) hB rfl rfl rfl _ _ _ _ _ _ _ _ _ H HE HN
end Go.Proofs.YtioapjnaopnhaaaDoor
