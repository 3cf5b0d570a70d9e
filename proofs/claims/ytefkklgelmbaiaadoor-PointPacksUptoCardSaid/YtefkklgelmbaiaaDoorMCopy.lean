/- The law PointPacks, walked: it returns true for every state whose lists and names are not beyond the bounds of the model. -/
import Derived.Test.YtefkklgelmbaiaaDoorMRefPack
import Derived.Laws.AppendOwnNone
import Derived.Test.YtefkklgelmbaiaaDoorMRegion
import Derived.Test.YtefkklgelmbaiaaDoorPsamex1
import Derived.Test.YtefkklgelmbaiaaDoorPnox1
/- shaleref10.Same and shaleref13.Same at two states of the same data: they answer true. -/
set_option linter.unusedSimpArgs false
set_option linter.unusedVariables false
namespace Go.Proofs.YtefkklgelmbaiaaDoor
open Go.RowKit Go.Proofs

theorem eqBlock (d : Nat) (w : World) (x y : Blk) :
    (Op.equalIn (d + 2) 45 (.agg #[.int .i64 x.st, .int .u64 x.hd, .bool x.real, .int .i64 x.live]) (.agg #[.int .i64 y.st, .int .u64 y.hd, .bool y.real, .int .i64 y.live])).run Tryd.prog w = .ok (x.st == y.st && (x.hd == y.hd && (x.real == y.real && (x.live == y.live && true)))) w := by
  refine eq_struct Tryd.underlying45 (by kernel_rfl) ?_
  refine eq_field (by decide) (by go_simp <;> rfl) (by go_simp <;> rfl) (by go_simp) ?_
  refine eq_field (by decide) (by go_simp <;> rfl) (by go_simp <;> rfl) (by go_simp) ?_
  refine eq_field (by decide) (by go_simp <;> rfl) (by go_simp <;> rfl) (by go_simp) ?_
  exact eq_field (by decide) (by go_simp <;> rfl) (by go_simp <;> rfl) (by go_simp) eq_done
theorem eqPiece (d : Nat) (w : World) (x y : Chk) :
    (Op.equalIn (d + 3) 57 (.agg #[.int .i64 x.b, .int .i64 x.p, .int .i64 x.n]) (.agg #[.int .i64 y.b, .int .i64 y.p, .int .i64 y.n])).run Tryd.prog w = .ok ((x.b == y.b && (x.p == y.p && true)) && (x.n == y.n && true)) w := by
  refine eq_struct Tryd.underlying57 (by kernel_rfl) ?_
  refine eq_field (by decide) (by go_simp <;> rfl) (by go_simp <;> rfl) (eqPlace d w x.b y.b x.p y.p) ?_
  exact eq_field (by decide) (by go_simp <;> rfl) (by go_simp <;> rfl) (by go_simp) eq_done
theorem eqChunk (d : Nat) (w : World) (x y : Chk) :
    (Op.equalIn (d + 4) 59 (.agg #[.int .i64 x.c, .int .i64 x.b, .int .i64 x.p, .int .i64 x.n]) (.agg #[.int .i64 y.c, .int .i64 y.b, .int .i64 y.p, .int .i64 y.n])).run Tryd.prog w = .ok (x.c == y.c && (((x.b == y.b && (x.p == y.p && true)) && (x.n == y.n && true)) && true)) w := by
  refine eq_struct Tryd.underlying59 (by kernel_rfl) ?_
  refine eq_field (by decide) (by go_simp <;> rfl) (by go_simp <;> rfl) (by go_simp) ?_
  exact eq_field (by decide) (by go_simp <;> rfl) (by go_simp <;> rfl) (eqPiece d w x y) eq_done
theorem eqBlock1 (w : World) (x : Blk) : (Op.equalIn 10000 45 (.agg #[.int .i64 x.st, .int .u64 x.hd, .bool x.real, .int .i64 x.live]) (.agg #[.int .i64 x.st, .int .u64 x.hd, .bool x.real, .int .i64 x.live])).run Tryd.prog w = .ok true w := by
  have := eqBlock 9998 w x x
  simpa using this
theorem eqChunk1 (w : World) (x : Chk) : (Op.equalIn 10000 59 (.agg #[.int .i64 x.c, .int .i64 x.b, .int .i64 x.p, .int .i64 x.n]) (.agg #[.int .i64 x.c, .int .i64 x.b, .int .i64 x.p, .int .i64 x.n])).run Tryd.prog w = .ok true w := by
  have := eqChunk 9996 w x x
  simpa using this
theorem eqPlace1 (w : World) (b p : Int) : (Op.equalIn 10000 50 (.agg #[.int .i64 b, .int .i64 p]) (.agg #[.int .i64 b, .int .i64 p])).run Tryd.prog w = .ok true w := by
  have := eqPlace 9998 w b b p p
  simpa using this
theorem eqNode1 (w : World) (n : Nod) : (Op.equalIn 10000 48 (.agg #[.int .i64 n.ty, .int .i64 n.par, .string n.name, .int .i64 n.size, .int .i64 n.mode, .int .u64 n.stamp, .int .i64 n.shadow, .string n.tgt]) (.agg #[.int .i64 n.ty, .int .i64 n.par, .string n.name, .int .i64 n.size, .int .i64 n.mode, .int .u64 n.stamp, .int .i64 n.shadow, .string n.tgt])).run Tryd.prog w = .ok true w := by
  have := eqNode 9998 w n n
  simpa [nodV] using this

set_option maxHeartbeats 12800000 in
set_option maxRecDepth 100000 in
theorem same10_true (os : List Obj') (A B : Option Addr) (c c' : Nat) (al bl : Al) (w : World) (hw : Ok w) (hA : ORow w A al os) (hB : ORow w B bl os) (hn : os.length ≤ 1099511627776) (hcn : ∀ o ∈ os, o.cs.length ≤ 1099511627776) :
    Calls Tryd.prog 30 #[.slice A os.length c, .slice B os.length c'] w fun e w' => e = .returned (.bool true) ∧ Fr w w' := by
  have f := Fr.refl hw
  go_enter Tryd.func30, Tryd.ntmps30
  go_wp2
  go_loopg [5] os.length (fun k v5 wc => ∃ (i : Nat), v5 = .int .i64 (i : Int) ∧ k + i = os.length ∧ Hid (Fr w wc))
  case atStart => exact ⟨0, rfl, by omega, Lib.hid f⟩
  case round =>
    clear f
    obtain ⟨i, rfl, hk, HF⟩ := hrel
    have f := HF.out
    clear HF
    cases gk with
    | zero =>
      have d5 : decide ((i : Int) < (os.length : Int)) = false := decide_eq_false (by omega)
      obtain rfl : i = os.length := by omega
      go_wp2
      go_ret
      exact ⟨rfl, f⟩
    | succ k =>
      have hi : i < os.length := by omega
      have d5 : decide ((i : Int) < (os.length : Int)) = true := decide_eq_true (by omega)
      obtain ⟨gO, oO, hA1, y0, y1, y2, y3, y4, y5, y6, y7, y8, y9, y10, y11, y12, _, hcl⟩ := (hA.fr f).get hi
      obtain ⟨gP, oP, hB1, z0, z1, z2, z3, z4, z5, z6, z7, z8, z9, z10, z11, z12, _, hcl2⟩ := (hB.fr f).get hi
      have hC1 := (hA.2 i os[i] (by simp [hi])).1
      have hC2 := (hB.2 i os[i] (by simp [hi])).1
      have hcn1 := hcn _ (List.getElem_mem hi)
      obtain ⟨ob, hob⟩ : ∃ ob, os[i] = ob := ⟨_, rfl⟩
      rw [hob] at y0 y1 y2 y3 y4 y5 y6 y7 y8 y9 y10 y11 y12 z0 z1 z2 z3 z4 z5 z6 z7 z8 z9 z10 z11 z12 hcl hcl2 hC1 hC2 hcn1
      clear hob
      subst hA1
      subst hB1
      obtain ⟨id, head, nd, pb, pp, cs⟩ := ob
      dsimp only at y0 y1 y2 y3 y4 y5 y6 y7 y8 y9 y10 y11 y12 z0 z1 z2 z3 z4 z5 z6 z7 z8 z9 z10 z11 z12 hcl hcl2 hC1 hC2 hcn1
      obtain ⟨a1, ha1⟩ : ∃ a1, al i = a1 := ⟨_, rfl⟩
      obtain ⟨a2, ha2⟩ : ∃ a2, bl i = a2 := ⟨_, rfl⟩
      rw [ha1] at y12 hcl hC1
      rw [ha2] at z12 hcl2 hC2
      clear ha1 ha2
      obtain ⟨A1, c1⟩ := a1
      obtain ⟨A2, c2⟩ := a2
      dsimp only at y12 z12 hcl hcl2 hC1 hC2
      have HC1 := Lib.hid hC1
      have HC2 := Lib.hid hC2
      clear hC1 hC2
      obtain ⟨w8, g8, hg8, hw8, f8, hz8, H8⟩ := boxedN f.ok #[.int .i64 id, .bool head, .int .i64 nd.ty, .int .i64 nd.par, .string nd.name, .int .i64 nd.size, .int .i64 nd.mode, .int .u64 nd.stamp, .int .i64 nd.shadow, .string nd.tgt, .int .i64 pb, .int .i64 pp, .slice A1 cs.length c1] 53
      replace f := f.trans f8
      replace z0 := f8.cell z0
      replace z1 := f8.cell z1
      replace z2 := f8.cell z2
      replace z3 := f8.cell z3
      replace z4 := f8.cell z4
      replace z5 := f8.cell z5
      replace z6 := f8.cell z6
      replace z7 := f8.cell z7
      replace z8 := f8.cell z8
      replace z9 := f8.cell z9
      replace z10 := f8.cell z10
      replace z11 := f8.cell z11
      replace z12 := f8.cell z12
      obtain ⟨w9, g9, hg9, hw9, f9, hz9, H9⟩ := boxedN f.ok #[.int .i64 id, .bool head, .int .i64 nd.ty, .int .i64 nd.par, .string nd.name, .int .i64 nd.size, .int .i64 nd.mode, .int .u64 nd.stamp, .int .i64 nd.shadow, .string nd.tgt, .int .i64 pb, .int .i64 pp, .slice A2 cs.length c2] 53
      replace f := f.trans f9
      replace H8 := f9.heap H8
      clear f8 f9
      obtain ⟨e0, e1, e2, e3, e4, e5, e6, e7, e8, e9, e10, e11, e12⟩ := blk13 H8
      obtain ⟨l0, l1, l2, l3, l4, l5, l6, l7, l8, l9, l10, l11, l12⟩ := blk13 H9
      have hE := fun W => eqNode1 W nd
      have hE2 := fun W => eqPlace1 W pb pp
      go_wp2
      go_loopg [8] cs.length (fun k v8 wc => ∃ (j : Nat), v8 = .int .i64 (j : Int) ∧ k + j = cs.length ∧ Hid (Fr w wc) ∧ Hid (wc.heap[g8]? = some (.cells #[.int .i64 id, .bool head, .int .i64 nd.ty, .int .i64 nd.par, .string nd.name, .int .i64 nd.size, .int .i64 nd.mode, .int .u64 nd.stamp, .int .i64 nd.shadow, .string nd.tgt, .int .i64 pb, .int .i64 pp, .slice A1 cs.length c1] 53 (0, 0))) ∧ Hid (wc.heap[g9]? = some (.cells #[.int .i64 id, .bool head, .int .i64 nd.ty, .int .i64 nd.par, .string nd.name, .int .i64 nd.size, .int .i64 nd.mode, .int .u64 nd.stamp, .int .i64 nd.shadow, .string nd.tgt, .int .i64 pb, .int .i64 pp, .slice A2 cs.length c2] 53 (0, 0))))
      case atStart => exact ⟨0, rfl, by omega, Lib.hid f, Lib.hid H8, Lib.hid H9⟩
      case round =>
        clear f H8 H9 e0 e1 e2 e3 e4 e5 e6 e7 e8 e9 e10 e11 e12 l0 l1 l2 l3 l4 l5 l6 l7 l8 l9 l10 l11 l12 hE hE2 hw8 hw9 y0 y1 y2 y3 y4 y5 y6 y7 y8 y9 y10 y11 y12 z0 z1 z2 z3 z4 z5 z6 z7 z8 z9 z10 z11 z12
        obtain ⟨j, rfl, hj, HF, HH8, HH9⟩ := hrel
        have f := HF.out
        have H8 := HH8.out
        have H9 := HH9.out
        clear HF HH8 HH9
        obtain ⟨e0, e1, e2, e3, e4, e5, e6, e7, e8, e9, e10, e11, e12⟩ := blk13 H8
        obtain ⟨l0, l1, l2, l3, l4, l5, l6, l7, l8, l9, l10, l11, l12⟩ := blk13 H9
        cases gk with
        | zero =>
          have d6 : decide ((j : Int) < (cs.length : Int)) = false := decide_eq_false (by omega)
          go_wp2
          go_roundg k
          case measure => omega
          case rel => exact ⟨i + 1, by simp, by omega, Lib.hid f⟩
        | succ kk =>
          have hj2 : j < cs.length := by omega
          have d6 : decide ((j : Int) < (cs.length : Int)) = true := decide_eq_true (by omega)
          obtain ⟨gC, oC, hA2, s0, s1, s2, s3⟩ := (HC1.out.fr f).get hj2
          obtain ⟨gD, oD, hB2, t0, t1, t2, t3⟩ := (HC2.out.fr f).get hj2
          obtain ⟨ch, hch⟩ : ∃ ch, cs[j] = ch := ⟨_, rfl⟩
          rw [hch] at s0 s1 s2 s3 t0 t1 t2 t3
          clear hch
          subst hA2
          subst hB2
          have hE := fun W => eqChunk1 W ch
          clear e0 e1 e2 e3 e4 e5 e6 e7 e8 e9 e10 e11 l0 l1 l2 l3 l4 l5 l6 l7 l8 l9 l10 l11
          go_wp2
          have r_e12 := cell_regrown e12
          have r_l12 := cell_regrown l12
          have r_s0 := cell_regrown s0
          have r_s1 := cell_regrown s1
          have r_s2 := cell_regrown s2
          have r_s3 := cell_regrown s3
          have r_t0 := cell_regrown t0
          have r_t1 := cell_regrown t1
          have r_t2 := cell_regrown t2
          have r_t3 := cell_regrown t3
          refine wp_region_quiet_below (by kernel_rfl) (by kernel_rfl) ?_
          repeat (go_big_quiet_step (fail))
          refine wpQuiet_nil ?_
          intro wq hwq
          have q := Fr.regrown f.ok hwq
          clear hwq r_e12 r_l12 r_s0 r_s1 r_s2 r_s3 r_t0 r_t1 r_t2 r_t3
          replace e12 := q.cell e12
          replace l12 := q.cell l12
          replace s0 := q.cell s0
          replace s1 := q.cell s1
          replace s2 := q.cell s2
          replace s3 := q.cell s3
          replace t0 := q.cell t0
          replace t1 := q.cell t1
          replace t2 := q.cell t2
          replace t3 := q.cell t3
          replace H8 := q.heap H8; replace H9 := q.heap H9
          replace f := f.trans q
          clear q
          go_wp2
          go_roundg kk
          case measure => omega
          case rel => exact ⟨j + 1, by simp, by omega, Lib.hid f, Lib.hid H8, Lib.hid H9⟩

set_option maxHeartbeats 12800000 in
set_option maxRecDepth 100000 in
theorem same13_true (s : St) (A1 B1 A2 B2 : Option Addr) (c1 d1 c2 d2 : Nat) (al bl : Al) (w : World) (hw : Ok w) (hA1 : BRow w A1 s.bs) (hB1 : BRow w B1 s.bs) (hA2 : ORow w A2 al s.os) (hB2 : ORow w B2 bl s.os) (hwf : s.wf) (hcn : ∀ o ∈ s.os, o.cs.length ≤ 1099511627776) :
    Calls Tryd.prog 13 #[.agg #[.int .u64 s.floor, .int .u64 s.next, .int .i64 s.cur, .int .i64 s.last, .slice A1 s.bs.length c1, .slice A2 s.os.length c2], .agg #[.int .u64 s.floor, .int .u64 s.next, .int .i64 s.cur, .int .i64 s.last, .slice B1 s.bs.length d1, .slice B2 s.os.length d2]] w fun e w' => e = .returned (.bool true) ∧ Fr w w' := by
  obtain ⟨_, _, _, _, _, _, hbl, hol⟩ := hwf
  obtain ⟨floor, next, cur, last, bs, os⟩ := s
  dsimp only at *
  have HS := Lib.hid (fun W (f : Fr w W) => same10_true os A2 B2 c2 d2 al bl W f.ok (hA2.fr f) (hB2.fr f) hol hcn)
  obtain ⟨w1, g1, hg1, hw1, f, hz1, H⟩ := boxedN hw #[.int .u64 floor, .int .u64 next, .int .i64 cur, .int .i64 last, .slice A1 bs.length c1, .slice A2 os.length c2] 26
  obtain ⟨w2, g2, hg2, hw2, f2, hz2, H2⟩ := boxedN f.ok #[.int .u64 floor, .int .u64 next, .int .i64 cur, .int .i64 last, .slice B1 bs.length d1, .slice B2 os.length d2] 26
  replace f := f.trans f2
  replace H := f2.heap H
  clear f2
  obtain ⟨x0, x1, x2, x3, x4, x5⟩ := blk6 H
  obtain ⟨z0, z1, z2, z3, z4, z5⟩ := blk6 H2
  go_enter Tryd.func13, Tryd.ntmps13
  go_wp2
  go_loopg [5] bs.length (fun k v5 wc => ∃ (i : Nat), v5 = .int .i64 (i : Int) ∧ k + i = bs.length ∧ Hid (Fr w wc) ∧ Hid (wc.heap[g1]? = some (.cells #[.int .u64 floor, .int .u64 next, .int .i64 cur, .int .i64 last, .slice A1 bs.length c1, .slice A2 os.length c2] 26 (0, 0))) ∧ Hid (wc.heap[g2]? = some (.cells #[.int .u64 floor, .int .u64 next, .int .i64 cur, .int .i64 last, .slice B1 bs.length d1, .slice B2 os.length d2] 26 (0, 0))))
  case atStart => exact ⟨0, rfl, by omega, Lib.hid f, Lib.hid H, Lib.hid H2⟩
  case round =>
    clear f H H2 x0 x1 x2 x3 x4 x5 z0 z1 z2 z3 z4 z5 hw1 hw2
    obtain ⟨i, rfl, hk, HF, HH, HH2⟩ := hrel
    have f := HF.out
    have H := HH.out
    have H2 := HH2.out
    clear HF HH HH2
    obtain ⟨x0, x1, x2, x3, x4, x5⟩ := blk6 H
    obtain ⟨z0, z1, z2, z3, z4, z5⟩ := blk6 H2
    cases gk with
    | zero =>
      have d5 : decide ((i : Int) < (bs.length : Int)) = false := decide_eq_false (by omega)
      go_wp2_with (go_at_call 30; refine (HS.out _ f).mono ?_; rintro e wx ⟨rfl, q⟩; replace f := f.trans q; clear q)
      go_ret
      exact ⟨rfl, f⟩
    | succ k =>
      have hi : i < bs.length := by omega
      have d5 : decide ((i : Int) < (bs.length : Int)) = true := decide_eq_true (by omega)
      obtain ⟨gC, oC, hA3, s0, s1, s2, s3⟩ := (hA1.fr f).get hi
      obtain ⟨gD, oD, hB3, t0, t1, t2, t3⟩ := (hB1.fr f).get hi
      obtain ⟨b, hb⟩ : ∃ b, bs[i] = b := ⟨_, rfl⟩
      rw [hb] at s0 s1 s2 s3 t0 t1 t2 t3
      clear hb
      rw [hA3] at x4
      rw [hB3] at z4
      have hE := fun W => eqBlock1 W b
      replace hA3 := Lib.hid hA3
      replace hB3 := Lib.hid hB3
      clear x0 x1 x2 x3 x5 z0 z1 z2 z3 z5
      go_wp2_with fail
      have r_x4 := cell_regrown x4
      have r_z4 := cell_regrown z4
      have r_s0 := cell_regrown s0
      have r_s1 := cell_regrown s1
      have r_s2 := cell_regrown s2
      have r_s3 := cell_regrown s3
      have r_t0 := cell_regrown t0
      have r_t1 := cell_regrown t1
      have r_t2 := cell_regrown t2
      have r_t3 := cell_regrown t3
      refine wp_region_quiet_below (by kernel_rfl) (by kernel_rfl) ?_
      repeat (go_big_quiet_step (fail))
      refine wpQuiet_nil ?_
      intro wq hwq
      have q := Fr.regrown f.ok hwq
      clear hwq r_x4 r_z4 r_s0 r_s1 r_s2 r_s3 r_t0 r_t1 r_t2 r_t3
      replace x4 := q.cell x4
      replace z4 := q.cell z4
      replace s0 := q.cell s0
      replace s1 := q.cell s1
      replace s2 := q.cell s2
      replace s3 := q.cell s3
      replace t0 := q.cell t0
      replace t1 := q.cell t1
      replace t2 := q.cell t2
      replace t3 := q.cell t3
      replace H := q.heap H; replace H2 := q.heap H2
      replace f := f.trans q
      clear q
      go_wp2
      go_roundg k
      case measure => omega
      case rel => exact ⟨i + 1, by simp, by omega, Lib.hid f, Lib.hid H, Lib.hid H2⟩
end Go.Proofs.YtefkklgelmbaiaaDoor
/- shalelaw14.kept at a copied state whose room stands: it answers true. -/
set_option linter.unusedSimpArgs false
set_option linter.unusedVariables false
namespace Go.Proofs.YtefkklgelmbaiaaDoor
open Go.RowKit Go.Proofs

/-- the room behind a copied state's lists -/
structure Room (w : World) (s : St) (B1 : Option Addr) (d1 : Nat) (B2 : Option Addr) (d2 : Nat) (bl : Al) : Prop where
  b : ∃ g, B1 = some ⟨g, 0, none⟩ ∧ w.cell? ⟨g, s.bs.length * 4, none⟩ = some (.int .i64 77) ∧ w.cell? ⟨g, (s.bs.length + 1) * 4, none⟩ = some (.int .i64 78)
  bc : s.bs.length + 2 ≤ d1
  o : ∃ g, B2 = some ⟨g, 0, none⟩ ∧ w.cell? ⟨g, s.os.length * 13, none⟩ = some (.int .i64 81) ∧ w.cell? ⟨g, (s.os.length + 1) * 13, none⟩ = some (.int .i64 82)
  oc : s.os.length + 2 ≤ d2
  k : ∀ i (h : i < s.os.length), ∃ g, (bl i).1 = some ⟨g, 0, none⟩ ∧ w.cell? ⟨g, s.os[i].cs.length * 4, none⟩ = some (.int .i64 79) ∧ w.cell? ⟨g, (s.os[i].cs.length + 1) * 4, none⟩ = some (.int .i64 80) ∧ s.os[i].cs.length + 2 ≤ (bl i).2
theorem Room.fr {w w' : World} {s : St} {B1 B2 : Option Addr} {d1 d2 : Nat} {bl : Al} (h : Room w s B1 d1 B2 d2 bl) (q : Fr w w') : Room w' s B1 d1 B2 d2 bl where
  b := by obtain ⟨g, h1, h2, h3⟩ := h.b; exact ⟨g, h1, q.cell h2, q.cell h3⟩
  bc := h.bc
  o := by obtain ⟨g, h1, h2, h3⟩ := h.o; exact ⟨g, h1, q.cell h2, q.cell h3⟩
  oc := h.oc
  k := fun i hi => by obtain ⟨g, h1, h2, h3, h4⟩ := h.k i hi; exact ⟨g, h1, q.cell h2, q.cell h3, h4⟩

set_option maxHeartbeats 12800000 in
set_option maxRecDepth 100000 in
theorem kept_true (s : St) (A1 B1 A2 B2 : Option Addr) (c1 d1 c2 d2 : Nat) (al bl : Al) (w : World) (hw : Ok w) (hA1 : BRow w A1 s.bs) (hB1 : BRow w B1 s.bs) (hA2 : ORow w A2 al s.os) (hB2 : ORow w B2 bl s.os) (hR : Room w s B1 d1 B2 d2 bl) (hwf : s.wf) (hcn : ∀ o ∈ s.os, o.cs.length ≤ 1099511627776) :
    Calls Tryd.prog 10 #[.agg #[.int .u64 s.floor, .int .u64 s.next, .int .i64 s.cur, .int .i64 s.last, .slice B1 s.bs.length d1, .slice B2 s.os.length d2], .agg #[.int .u64 s.floor, .int .u64 s.next, .int .i64 s.cur, .int .i64 s.last, .slice A1 s.bs.length c1, .slice A2 s.os.length c2]] w fun e w' => e = .returned (.bool true) ∧ Fr w w' := by
  have HS := Lib.hid (fun W (f : Fr w W) => same13_true s B1 A1 B2 A2 d1 c1 d2 c2 bl al W f.ok (hB1.fr f) (hA1.fr f) (hB2.fr f) (hA2.fr f) hwf hcn)
  obtain ⟨_, _, _, _, _, _, hbl, hol⟩ := hwf
  obtain ⟨⟨gB, hgB, hb0, hb1⟩, hbc, ⟨gO, hgO, ho0, ho1⟩, hoc, hk⟩ := hR
  obtain ⟨floor, next, cur, last, bs, os⟩ := s
  dsimp only at *
  subst hgB
  subst hgO
  have HK := Lib.hid hk
  clear hk
  obtain ⟨w1, g1, hg1, hw1, f, hz1, H⟩ := boxedN hw #[.int .u64 floor, .int .u64 next, .int .i64 cur, .int .i64 last, .slice (some ⟨gB, 0, none⟩) bs.length d1, .slice (some ⟨gO, 0, none⟩) os.length d2] 26
  obtain ⟨w2, g2, hg2, hw2, f2, hz2, H2⟩ := boxedN f.ok #[.int .u64 floor, .int .u64 next, .int .i64 cur, .int .i64 last, .slice A1 bs.length c1, .slice A2 os.length c2] 26
  replace f := f.trans f2
  replace H := f2.heap H
  clear f2
  replace hb0 := f.cell hb0
  replace hb1 := f.cell hb1
  replace ho0 := f.cell ho0
  replace ho1 := f.cell ho1
  obtain ⟨x0, x1, x2, x3, x4, x5⟩ := blk6 H
  obtain ⟨z0, z1, z2, z3, z4, z5⟩ := blk6 H2
  have wb1 : IntKind.i64.wrap ((bs.length : Int) + 1) = (bs.length : Int) + 1 := IntWalk.i64_in _ ⟨by omega, by omega⟩
  have wb2 : IntKind.i64.wrap ((bs.length : Int) + 2) = (bs.length : Int) + 2 := IntWalk.i64_in _ ⟨by omega, by omega⟩
  have wo1 : IntKind.i64.wrap ((os.length : Int) + 1) = (os.length : Int) + 1 := IntWalk.i64_in _ ⟨by omega, by omega⟩
  have wo2 : IntKind.i64.wrap ((os.length : Int) + 2) = (os.length : Int) + 2 := IntWalk.i64_in _ ⟨by omega, by omega⟩
  go_enter Tryd.func10, Tryd.ntmps10
  go_wp2_with (go_at_call 13; refine (HS.out _ f).mono ?_; rintro e wx ⟨rfl, q⟩; replace H := q.heap H; replace f := f.trans q; replace hb0 := q.cell hb0; replace hb1 := q.cell hb1; replace ho0 := q.cell ho0; replace ho1 := q.cell ho1; clear q; obtain ⟨x0, x1, x2, x3, x4, x5⟩ := blk6 H)
  go_loopg [7] os.length (fun k v7 wc => ∃ (i : Nat), v7 = .int .i64 (i : Int) ∧ k + i = os.length ∧ Hid (Fr w wc) ∧ Hid (wc.heap[g1]? = some (.cells #[.int .u64 floor, .int .u64 next, .int .i64 cur, .int .i64 last, .slice (some ⟨gB, 0, none⟩) bs.length d1, .slice (some ⟨gO, 0, none⟩) os.length d2] 26 (0, 0))))
  case atStart => exact ⟨0, rfl, by omega, Lib.hid f, Lib.hid H⟩
  case round =>
    clear f H H2 x0 x1 x2 x3 x4 x5 z0 z1 z2 z3 z4 z5 hw1 hw2 hb0 hb1 ho0 ho1
    obtain ⟨i, rfl, hk, HF, HH⟩ := hrel
    have f := HF.out
    have H := HH.out
    clear HF HH
    obtain ⟨x0, x1, x2, x3, x4, x5⟩ := blk6 H
    cases gk with
    | zero =>
      have d5 : decide ((i : Int) < (os.length : Int)) = false := decide_eq_false (by omega)
      go_wp2
      go_ret
      exact ⟨rfl, f⟩
    | succ k =>
      have hi : i < os.length := by omega
      have d5 : decide ((i : Int) < (os.length : Int)) = true := decide_eq_true (by omega)
      obtain ⟨gP, oP, hA3, y0, y1, y2, y3, y4, y5, y6, y7, y8, y9, y10, y11, y12, _, hcl⟩ := (hB2.fr f).get hi
      injection hA3 with hA3
      injection hA3 with e1 e2
      subst e1
      subst e2
      obtain ⟨gC, hC, t0, t1, hcap⟩ := HK.out i hi
      replace t0 := f.cell t0
      replace t1 := f.cell t1
      have hcn1 := hcn _ (List.getElem_mem hi)
      obtain ⟨a1, ha1⟩ : ∃ a1, bl i = a1 := ⟨_, rfl⟩
      rw [ha1] at hC hcap y12
      obtain ⟨aC, cC⟩ := a1
      dsimp only at hC hcap y12
      subst hC
      obtain ⟨n, hn⟩ : ∃ n, os[i].cs.length = n := ⟨_, rfl⟩
      rw [hn] at hcap y12 t0 t1 hcn1
      simp only [Nat.zero_add] at y12
      clear hn ha1 y0 y1 y2 y3 y4 y5 y6 y7 y8 y9 y10 y11 wb1 wb2 wo1 wo2
      have wn1 : IntKind.i64.wrap ((n : Int) + 1) = (n : Int) + 1 := IntWalk.i64_in _ ⟨by omega, by omega⟩
      have wn2 : IntKind.i64.wrap ((n : Int) + 2) = (n : Int) + 2 := IntWalk.i64_in _ ⟨by omega, by omega⟩
      go_wp2
      go_roundg k
      case measure => omega
      case rel => exact ⟨i + 1, by simp, by omega, Lib.hid f, Lib.hid H⟩
end Go.Proofs.YtefkklgelmbaiaaDoor
/- shalelaw14.copied: a state in lists of its own, with marked room behind them. -/
set_option linter.unusedSimpArgs false
set_option linter.unusedVariables false
namespace Go.Proofs.YtefkklgelmbaiaaDoor
open Go.RowKit Go.Proofs

/-! ### Rows of cells -/
theorem flat_length {k : Nat} : ∀ {cells : List (List Value)}, (∀ c ∈ cells, c.length = k) → cells.flatten.length = cells.length * k
  | [], _ => by simp
  | c :: cs, h => by
    rw [List.flatten_cons, List.length_append, h c List.mem_cons_self, flat_length (fun c hc => h c (List.mem_cons_of_mem _ hc)), List.length_cons, Nat.add_mul]; omega
theorem flat_get {k : Nat} : ∀ {cells : List (List Value)} (_ : ∀ c ∈ cells, c.length = k) {i j : Nat} {c : List Value} (_ : cells[i]? = some c) (_ : j < k), cells.flatten[i * k + j]? = c[j]?
  | [], _, i, _, _, h, _ => by simp at h
  | x :: cs, hl, 0, j, c, h, hj => by
    simp at h; subst h
    rw [List.flatten_cons, Nat.zero_mul, Nat.zero_add, List.getElem?_append_left (by rw [hl x List.mem_cons_self]; exact hj)]
  | x :: cs, hl, i + 1, j, c, h, hj => by
    have hx := hl x List.mem_cons_self
    rw [List.flatten_cons, List.getElem?_append_right (by rw [hx, Nat.add_mul]; omega), hx, show (i + 1) * k + j - k = i * k + j by rw [Nat.add_mul]; omega]
    exact flat_get (fun c hc => hl c (List.mem_cons_of_mem _ hc)) (by simpa using h) hj
theorem Row.flat {w : World} {g o k : Nat} {cells : List (List Value)} (h : Row w (some ⟨g, o, none⟩) k cells) (hk : 0 < k) (hl : ∀ c ∈ cells, c.length = k) : ∀ j u, cells.flatten[j]? = some u → w.cell? ((⟨g, o, none⟩ : Addr).add j) = some u := by
  intro j u hj
  have hlt : j < cells.length * k := by rw [← flat_length hl]; exact (List.getElem?_eq_some_iff.1 hj).1
  have hi : j / k < cells.length := by rw [Nat.div_lt_iff_lt_mul hk]; exact hlt
  have hmod := Nat.mod_lt j hk
  have hdm : j / k * k + j % k = j := by rw [Nat.mul_comm]; exact Nat.div_add_mod j k
  rcases h with h | ⟨g', o', e, _, h⟩
  · subst h; simp at hj
  · injection e with e; injection e with e1 e2; subst e1 e2
    have hc : cells[j / k]? = some cells[j / k] := List.getElem?_eq_getElem hi
    have h2 := flat_get hl hc hmod
    rw [hdm, hj] at h2
    rw [Lib.add_plain, ← hdm, ← Nat.add_assoc]
    exact h _ _ hc _ _ hmod h2.symm
theorem own_Row {w : World} {base n cap k g : Nat} {e : TypeId} {cells : List (List Value)} {xs : List Value} (hl : ∀ c ∈ cells, c.length = k) (h : w.ownsRow base e k (.slice (some ⟨g, 0, none⟩) n cap) n (cells.flatten ++ xs)) : Row w (some ⟨g, 0, none⟩) k cells := by
  have hg := h.lt g rfl
  refine .inr ⟨g, 0, rfl, hg.2, fun i c hi j v hj hv => ?_⟩
  have h1 : i < cells.length := (List.getElem?_eq_some_iff.1 hi).1
  have h2 : i * k + j < cells.length * k := by
    have : (i + 1) * k ≤ cells.length * k := Nat.mul_le_mul_right _ h1
    rw [Nat.add_mul] at this; omega
  have := h.cells (g := g) rfl (i * k + j) v (by rw [List.getElem?_append_left (by rw [flat_length hl]; exact h2), flat_get hl hi hj]; exact hv)
  rw [Lib.add_plain] at this
  rw [← this]; congr 2; omega
theorem own_ne2 {w : World} {b1 b2 s1 s2 n1 n2 : Nat} {e1 e2 : TypeId} {v1 v2 : Value} {x1 x2 : List Value} (h1 : w.ownsRow b1 e1 s1 v1 n1 x1) (h2 : w.ownsRow b2 e2 s2 v2 n2 x2) (hne : e1 ≠ e2) : v1.ownBlock = none ∨ v1.ownBlock ≠ v2.ownBlock := by
  rcases h1.2 with ⟨rfl, _⟩ | ⟨g, cap, cur, rfl, _, hg, _⟩
  · exact .inl rfl
  · right
    rcases h2.2 with ⟨rfl, _⟩ | ⟨g', cap', cur', rfl, _, hg', _⟩
    · simp [Value.ownBlock]
    · intro e
      injection e with e
      dsimp only at e
      subst e
      rw [hg] at hg'
      injection hg' with hg'
      injection hg' with _ h3
      exact hne h3
theorem own_ne3 {w : World} {B size n : Nat} {e : TypeId} {v : Value} {xs : List Value} (h : w.ownsRow B e size v n xs) {g : Nat} {cs : Array Value} {t : TypeId} (hg : w.heap[g]? = some (.cells cs t (0, 0))) (ht : e ≠ t) : some g ≠ v.ownBlock := by
  rintro e'
  rcases h.2 with ⟨rfl, _⟩ | ⟨g', cap, cur, rfl, _, hg', _⟩
  · cases e'
  · injection e' with e'
    subst e'
    rw [hg] at hg'
    injection hg' with hg'
    injection hg' with _ h3
    exact ht h3.symm
theorem own_form {w : World} {B size n : Nat} {e : TypeId} {v : Value} {xs : List Value} (h : w.ownsRow B e size v n xs) : ∃ a c, v = .slice a n c := by
  rcases h.2 with ⟨hv, h0⟩ | ⟨g, cap, cur, hv, _⟩
  · rw [h0]; exact ⟨none, 0, hv⟩
  · exact ⟨_, cap, hv⟩
/-- the source of an append: nil, or cells in a row -/
def Src (w : World) (A : Option Addr) (m c : Nat) (news : List Value) : Prop := (A = none ∧ m = 0 ∧ c = 0 ∧ news = []) ∨ ∃ a, A = some a ∧ ∀ j u, news[j]? = some u → w.cell? (a.add j) = some u
theorem append_src {T e : TypeId} {i : TypeInfo} {z : Value} {size bytes : Nat} (ht : Tryd.prog.underlying T = some (.slice e)) (hi : Tryd.prog.info? e = some i) (hz : i.zero = some z) (hsize : i.size = size) (hby : i.bytes = bytes) (hzs : z.cells.size = size) (hsz : 0 < size)
    (ty : TypeId) {w : World} {base : Nat} {v : Value} {n : Nat} {xs : List Value} (hown : w.ownsRow base e size v n xs) (A : Option Addr) (m c : Nat) (news : List Value) (hs : Src w A m c news) (hl : news.length = m * size) (h1 : ∀ u ∈ news, u.oneCell' = true)
    (h63 : n + m ≤ maxLen) (hbytes : (n + m) * bytes ≤ 140737488355328) (hbase : base ≤ w.heap.size) :
    ∃ v' w', (Builtin.append_ #[T, T] ty #[v, .slice A m c]).run Tryd.prog w = .ok v' w' ∧ w'.ownsRow base e size v' (n + m) (xs ++ news) ∧ w.grownBy w' v.ownBlock ∧ (v'.ownBlock = v.ownBlock ∨ v'.ownBlock = some w.heap.size) := by
  rcases hs with ⟨rfl, rfl, rfl, rfl⟩ | ⟨a, rfl, hc⟩
  · refine ⟨v, w, run_append_owned_none (P := Tryd.prog) (w := w) base T ty e i size ht hi v n xs hown, by simpa using hown, grown_refl w _, .inl rfl⟩
  · obtain ⟨v', w', hr, h2, h3, _, h4⟩ := run_append_own_at (P := Tryd.prog) (w := w) base T ty e i z size bytes ht hi hz hsize hby hzs hsz v n xs hown a m c news hl hc h1 h63 hbytes hbase
    exact ⟨v', w', hr, h2, h3, h4⟩
theorem Src.lit {w : World} {g : Nat} {cs : Array Value} {t : TypeId} {fz : Nat × Nat} (H : w.heap[g]? = some (.cells cs t fz)) (m c : Nat) : Src w (some ⟨g, 0, none⟩) m c cs.toList :=
  .inr ⟨_, rfl, fun j u hj => by rw [Lib.add_plain, Nat.zero_add]; exact blk_cell H (by simpa using hj)⟩
theorem infoBlock : (Tryd.prog.info? 45).map (fun i => (i.zero, i.size, i.bytes)) = some (some (.agg #[.int .i64 0, .int .u64 0, .bool false, .int .i64 0]), 4, 32) := by kernel_rfl
theorem infoChunk : (Tryd.prog.info? 59).map (fun i => (i.zero, i.size, i.bytes)) = some (some (.agg #[.int .i64 0, .int .i64 0, .int .i64 0, .int .i64 0]), 4, 32) := by kernel_rfl
theorem infoObject : (Tryd.prog.info? 53).map (fun i => (i.zero, i.size, i.bytes)) = some (some (.agg #[.int .i64 0, .bool false, .int .i64 0, .int .i64 0, .string ⟨#[]⟩, .int .i64 0, .int .i64 0, .int .u64 0, .int .i64 0, .string ⟨#[]⟩, .int .i64 0, .int .i64 0, .slice none 0 0]), 13, 136) := by kernel_rfl
theorem unfroz {w : World} {g : Nat} {cs : Array Value} {t : TypeId} (H : w.heap[g]? = some (.cells cs t (0, 0))) (j : Nat) : w.frozen? ⟨g, j, none⟩ = false := by
  simp [World.frozen?, H]
theorem set_own {w0 w : World} {g : Nat} {cs : Array Value} {t : TypeId} (f : Fr w0 w) (hw0 : Ok w0) (hB : w0.heap.size ≤ g) (H : w.heap[g]? = some (.cells cs t (0, 0))) (j : Nat) (v : Value) :
    ∃ w1, w.setCell ⟨g, j, none⟩ v = w1 ∧ w1.heap[g]? = some (.cells (cs.setIfInBounds j v) t (0, 0)) ∧ Fr w0 w1 ∧ w.grownBy w1 (some g) := by
  have hb : Below g w (w.setCell ⟨g, j, none⟩ v) := (Below.refl g w).setCell (Nat.le_refl _) v
  refine ⟨_, rfl, ?_, Fr.of hw0 (f.below.trans (hb.mono hB)), ⟨hb.os, hb.tape, hb.output, hb.size, fun k hk hn => ?_⟩⟩
  · simp [World.setCell, Array.getElem?_modify, H]
  · exact Below.heap_setCell w _ v k (fun e => hn (by rw [e]))

theorem bcells_len (bs : List Blk) : ∀ c ∈ bs.map bcells, c.length = 4 := fun c h => by obtain ⟨b, _, rfl⟩ := List.mem_map.1 h; rfl
theorem ccells_len (cs : List Chk) : ∀ c ∈ cs.map ccells, c.length = 4 := fun c h => by obtain ⟨b, _, rfl⟩ := List.mem_map.1 h; rfl
def bflat (bs : List Blk) : List Value := (bs.map bcells).flatten
def cflat (cs : List Chk) : List Value := (cs.map ccells).flatten
theorem bflat_one (bs : List Blk) : ∀ u ∈ bflat bs, u.oneCell' = true := by
  intro u hu
  simp only [bflat, List.mem_flatten, List.mem_map] at hu
  obtain ⟨c, ⟨b, _, rfl⟩, hu⟩ := hu
  simp only [bcells, List.mem_cons, List.not_mem_nil, or_false] at hu
  rcases hu with rfl | rfl | rfl | rfl <;> rfl
theorem cflat_one (cs : List Chk) : ∀ u ∈ cflat cs, u.oneCell' = true := by
  intro u hu
  simp only [cflat, List.mem_flatten, List.mem_map] at hu
  obtain ⟨c, ⟨b, _, rfl⟩, hu⟩ := hu
  simp only [ccells, List.mem_cons, List.not_mem_nil, or_false] at hu
  rcases hu with rfl | rfl | rfl | rfl <;> rfl
theorem BRow.src {w : World} {A : Option Addr} {bs : List Blk} (h : BRow w A bs) {c : Nat} (hn : A = none → c = 0) : Src w A bs.length c (bflat bs) := by
  rcases h with hb | ⟨g, o, e, hg, h⟩
  · have hb : bs = [] := by simpa using hb
    subst hb
    cases A with
    | none => exact .inl ⟨rfl, rfl, hn rfl, rfl⟩
    | some a => exact .inr ⟨a, rfl, fun j u hj => by simp [bflat] at hj⟩
  · subst e
    exact .inr ⟨_, rfl, Row.flat (.inr ⟨g, o, rfl, hg, h⟩) (by decide) (bcells_len bs)⟩
theorem CRow.src {w : World} {A : Option Addr} {cs : List Chk} (h : CRow w A cs) {c : Nat} (hn : A = none → c = 0) : Src w A cs.length c (cflat cs) := by
  rcases h with hb | ⟨g, o, e, hg, h⟩
  · have hb : cs = [] := by simpa using hb
    subst hb
    cases A with
    | none => exact .inl ⟨rfl, rfl, hn rfl, rfl⟩
    | some a => exact .inr ⟨a, rfl, fun j u hj => by simp [cflat] at hj⟩
  · subst e
    exact .inr ⟨_, rfl, Row.flat (.inr ⟨g, o, rfl, hg, h⟩) (by decide) (ccells_len cs)⟩
def Obj'.nil : Obj' := ⟨0, false, Nod.zero, 0, 0, []⟩
def orow (os : List Obj') (bl : Al) (i : Nat) : List (List Value) := (List.range i).map fun j => ocells (os.getD j Obj'.nil) (bl j).1 (bl j).2
theorem orow_succ (os : List Obj') (bl : Al) (i : Nat) : orow os bl (i + 1) = orow os bl i ++ [ocells (os.getD i Obj'.nil) (bl i).1 (bl i).2] := by
  unfold orow; rw [List.range_succ, List.map_append]; rfl
theorem orow_congr (os : List Obj') (bl bl' : Al) (i : Nat) (h : ∀ j, j < i → bl j = bl' j) : orow os bl i = orow os bl' i := by
  unfold orow
  refine List.map_congr_left fun j hj => ?_
  rw [h j (List.mem_range.1 hj)]
theorem orow_len (os : List Obj') (bl : Al) (i : Nat) : ∀ c ∈ orow os bl i, c.length = 13 := fun c h => by obtain ⟨b, _, rfl⟩ := List.mem_map.1 h; rfl
theorem orow_length (os : List Obj') (bl : Al) (i : Nat) : (orow os bl i).length = i := by unfold orow; simp
theorem own_low {w : World} {B B' size n : Nat} {e : TypeId} {v : Value} {xs : List Value} (h : w.ownsRow B e size v n xs) (hb : B' ≤ B) : w.ownsRow B' e size v n xs := by
  obtain ⟨h1, h2⟩ := h
  refine ⟨h1, ?_⟩
  rcases h2 with h2 | ⟨g, cap, cur, hv, hg, r⟩
  · exact .inl h2
  · exact .inr ⟨g, cap, cur, hv, by omega, r⟩
def upd (bl : Al) (i : Nat) (a : Option Addr) (c : Nat) : Al := fun j => if j = i then (a, c) else bl j
theorem upd_self (bl : Al) (i : Nat) (a : Option Addr) (c : Nat) : upd bl i a c i = (a, c) := if_pos rfl
theorem upd_ne (bl : Al) (i : Nat) (a : Option Addr) (c : Nat) (j : Nat) (h : j ≠ i) : upd bl i a c j = bl j := if_neg h
theorem room_own {w : World} {B size n : Nat} {e : TypeId} {a : Option Addr} {c : Nat} {xs : List Value} (h : w.ownsRow B e size (.slice a n c) n xs) (h0 : 0 < n) : n ≤ c := by
  rcases h.2 with ⟨hv, h1⟩ | ⟨g, cap, cur, hv, _, _, hc, _⟩
  · omega
  · injection hv with _ _ h3; omega
def roomC : List Value := [.int .i64 79, .int .i64 0, .int .i64 0, .int .i64 0, .int .i64 80, .int .i64 0, .int .i64 0, .int .i64 0]
def CRows (w : World) (B : Nat) (os : List Obj') (bl : Al) (i : Nat) : Prop := ∀ j, j < i → (hj : j < os.length) → w.ownsRow B 59 4 (.slice (bl j).1 (os[j].cs.length + 2) (bl j).2) (os[j].cs.length + 2) (cflat os[j].cs ++ roomC)
theorem CRows.fr {w w' : World} {B : Nat} {os : List Obj'} {bl : Al} {i : Nat} (h : CRows w B os bl i) (q : Fr w w') : CRows w' B os bl i := fun j hj hl => own_fr (h j hj hl) q
theorem own_at {w : World} {base n cap k g m : Nat} {e : TypeId} {xs ys : List Value} (hm : xs.length = m) (h : w.ownsRow base e k (.slice (some ⟨g, 0, none⟩) n cap) n (xs ++ ys)) (j : Nat) (u : Value) (hj : ys[j]? = some u) : w.cell? ⟨g, m + j, none⟩ = some u := by
  have := h.cells (g := g) rfl (m + j) u (by rw [List.getElem?_append_right (by omega), hm, show m + j - m = j by omega]; exact hj)
  rwa [Lib.add_plain, Nat.zero_add] at this
def roomB : List Value := [.int .i64 77, .int .u64 0, .bool false, .int .i64 0, .int .i64 78, .int .u64 0, .bool false, .int .i64 0]
def roomO : List Value := [.int .i64 81, .bool false, .int .i64 0, .int .i64 0, .string ⟨#[]⟩, .int .i64 0, .int .i64 0, .int .u64 0, .int .i64 0, .string ⟨#[]⟩, .int .i64 0, .int .i64 0, .slice none 0 0, .int .i64 82, .bool false, .int .i64 0, .int .i64 0, .string ⟨#[]⟩, .int .i64 0, .int .i64 0, .int .u64 0, .int .i64 0, .string ⟨#[]⟩, .int .i64 0, .int .i64 0, .slice none 0 0]
theorem copied_end {w : World} {B g8 b8 g22 b22 : Nat} {bl : Al} (s : St) (O9 : w.ownsRow B 45 4 (.slice (some ⟨g8, 0, none⟩) (s.bs.length + 2) b8) (s.bs.length + 2) (bflat s.bs ++ roomB))
    (O22 : w.ownsRow B 53 13 (.slice (some ⟨g22, 0, none⟩) (s.os.length + 2) b22) (s.os.length + 2) ((orow s.os bl s.os.length).flatten ++ roomO)) (OC : CRows w B s.os bl s.os.length) :
    BRow w (some ⟨g8, 0, none⟩) s.bs ∧ ORow w (some ⟨g22, 0, none⟩) bl s.os ∧ Room w s (some ⟨g8, 0, none⟩) b8 (some ⟨g22, 0, none⟩) b22 bl := by
  have hbl : (bflat s.bs).length = s.bs.length * 4 := by unfold bflat; rw [flat_length (bcells_len _), List.length_map]
  have hol : ((orow s.os bl s.os.length).flatten).length = s.os.length * 13 := by rw [flat_length (orow_len _ _ _), orow_length]
  have hcl : ∀ cs : List Chk, (cflat cs).length = cs.length * 4 := fun cs => by unfold cflat; rw [flat_length (ccells_len _), List.length_map]
  have R22 := own_Row (orow_len s.os bl s.os.length) O22
  have hC : ∀ i, (hi : i < s.os.length) → ∃ g, (bl i).1 = some ⟨g, 0, none⟩ ∧ s.os[i].cs.length + 2 ≤ (bl i).2 ∧ CRow w (bl i).1 s.os[i].cs ∧ w.cell? ⟨g, s.os[i].cs.length * 4, none⟩ = some (.int .i64 79) ∧ w.cell? ⟨g, (s.os[i].cs.length + 1) * 4, none⟩ = some (.int .i64 80) := by
    intro i hi
    have h := OC i hi hi
    obtain ⟨⟨a, c⟩, hac⟩ : ∃ x, bl i = x := ⟨_, rfl⟩
    rw [hac] at h ⊢
    dsimp only at h ⊢
    obtain ⟨g, cap, hv, _, _, hcap⟩ := own_some h (by rintro e; injection e with _ h2 _; omega)
    injection hv with h1 _ h3
    subst h1 h3
    refine ⟨g, rfl, hcap, own_Row (ccells_len _) h, ?_, ?_⟩
    · exact own_at (hcl _) h 0 _ rfl
    · have := own_at (hcl _) h 4 _ rfl
      rwa [show s.os[i].cs.length * 4 + 4 = (s.os[i].cs.length + 1) * 4 by omega] at this
  refine ⟨own_Row (bcells_len s.bs) O9, ⟨?_, ?_⟩, ?_⟩
  · rcases R22 with h | ⟨g, o, e, hlt, h⟩
    · left
      have := congrArg List.length h
      rw [orow_length] at this
      exact List.length_eq_zero_iff.1 (by simpa using this)
    · right
      injection e with e
      injection e with e1 e2
      subst e1 e2
      refine ⟨_, _, rfl, hlt, fun i ob hi j v hj hv => ?_⟩
      have hil := (List.getElem?_eq_some_iff.1 hi).1
      refine h i (ocells ob (bl i).1 (bl i).2) ?_ j v hj hv
      unfold orow
      rw [List.getElem?_map, List.getElem?_range hil]
      simp [List.getD, hi]
  · intro i ob hi
    obtain ⟨hil, rfl⟩ := List.getElem?_eq_some_iff.1 hi
    obtain ⟨g, h1, h2, h3, _⟩ := hC i hil
    exact ⟨h3, by omega⟩
  · refine ⟨⟨g8, rfl, own_at hbl O9 0 _ rfl, ?_⟩, room_own O9 (by omega), ⟨g22, rfl, own_at hol O22 0 _ rfl, ?_⟩, room_own O22 (by omega), fun i hi => ?_⟩
    · have := own_at hbl O9 4 _ rfl
      rwa [show s.bs.length * 4 + 4 = (s.bs.length + 1) * 4 by omega] at this
    · have := own_at hol O22 13 _ rfl
      rwa [show s.os.length * 13 + 13 = (s.os.length + 1) * 13 by omega] at this
    · obtain ⟨g, h1, h2, h3, h4, h5⟩ := hC i hi
      exact ⟨g, h1, h4, h5, h2⟩
set_option maxHeartbeats 12800000 in
set_option maxRecDepth 100000 in
theorem copied_go (Post : Ending → World → Prop) (s : St) (A1 : Option Addr) (c1 : Nat) (A2 : Option Addr) (c2 : Nat) (al : Al) (w : World) (hw : Ok w) (hB : BRow w A1 s.bs) (hO : ORow w A2 al s.os) (hwf : s.wf) (hcn : ∀ o ∈ s.os, o.cs.length ≤ 1099511627776) (hos : s.os.length ≤ 549755813888)
    (hA1 : A1 = none → c1 = 0) (hal : ∀ i, i < s.os.length → (al i).1 = none → (al i).2 = 0)
    (HPost : Hid (∀ w' B1 d1 B2 d2 bl, Fr w w' → BRow w' B1 s.bs → ORow w' B2 bl s.os → Room w' s B1 d1 B2 d2 bl → Post (.returned (.agg #[.int .u64 s.floor, .int .u64 s.next, .int .i64 s.cur, .int .i64 s.last, .slice B1 s.bs.length d1, .slice B2 s.os.length d2])) w')) :
    Calls Tryd.prog 6 #[.agg #[.int .u64 s.floor, .int .u64 s.next, .int .i64 s.cur, .int .i64 s.last, .slice A1 s.bs.length c1, .slice A2 s.os.length c2]] w Post := by
  obtain ⟨_, _, _, _, _, _, hbl, hol⟩ := hwf
  obtain ⟨iB, hiB, hzB, hsB, hyB⟩ := info_parts infoBlock
  obtain ⟨iC, hiC, hzC, hsC, hyC⟩ := info_parts infoChunk
  obtain ⟨iO, hiO, hzO, hsO, hyO⟩ := info_parts infoObject
  obtain ⟨floor, next, cur, last, bs, os⟩ := s
  dsimp only at *
  obtain ⟨w1, g1, hg1, hw1, f, hz1, H1⟩ := boxedN hw #[.int .u64 floor, .int .u64 next, .int .i64 cur, .int .i64 last, .slice A1 bs.length c1, .slice A2 os.length c2] 26
  obtain ⟨w2, g2, hg2, hw2, f2, hz2, H2⟩ := boxedN f.ok #[.int .u64 0, .int .u64 0, .int .i64 0, .int .i64 0, .slice none 0 0, .slice none 0 0] 26
  have hBg2 : w.heap.size ≤ g2 := by rw [← hg2]; exact f.size
  replace f := f.trans f2
  replace H1 := f2.heap H1
  obtain ⟨x0, x1, x2, x3, x4, x5⟩ := blk6 H1
  obtain ⟨w3, g3, hg3, hw3, f3, hz3, H3⟩ := boxedN f.ok #[.int .u64 floor, .int .u64 next, .int .i64 cur, .int .i64 last, .slice A1 bs.length c1, .slice A2 os.length c2] 26
  have hBg3 : w.heap.size ≤ g3 := by rw [← hg3]; exact f.size
  replace f := f.trans f3
  replace H1 := f3.heap H1
  replace H2 := f3.heap H2
  obtain ⟨w4, g4, hg4, hw4, f4, hz4, H4⟩ := boxedN f.ok #[] 45
  have hBg4 : w.heap.size ≤ g4 := by rw [← hg4]; exact f.size
  replace f := f.trans f4
  replace H1 := f4.heap H1
  replace H2 := f4.heap H2
  replace H3 := f4.heap H3
  obtain ⟨q0, q1, q2, q3, q4, q5⟩ := blk6 H1
  have O4 : w4.ownsRow w.heap.size 45 4 (.slice (some ⟨g4, 0, none⟩) 0 0) 0 [] := ⟨by simp, .inr ⟨g4, 0, #[], rfl, hBg4, H4, by omega, by simp, by simp, by simp⟩⟩
  obtain ⟨v5, w5, hap, O5, gr, _⟩ := append_src Tryd.underlying23 hiB hzB hsB hyB rfl (by decide) 23 O4 A1 bs.length c1 (bflat bs) ((hB.fr f).src hA1) (by unfold bflat; rw [flat_length (bcells_len bs), List.length_map]) (bflat_one bs) (by unfold maxLen; omega) (by omega) f.size
  simp only [Nat.zero_add, List.nil_append] at O5
  have n1 := own_ne3 O4 H1 (by decide)
  have n2 := own_ne3 O4 H2 (by decide)
  have n3 := own_ne3 O4 H3 (by decide)
  replace H1 := grown_blk' gr H1 n1
  replace H2 := grown_blk' gr H2 n2
  replace H3 := grown_blk' gr H3 n3
  replace f := f.row hw gr (fun k hk => (World.ownsRow.lt O4 k hk).1)
  clear n1 n2 n3 gr O4 H4 f2 f3 f4
  obtain ⟨a5, b5, rfl⟩ := own_form O5
  have z3 := unfroz H3 4
  have y34 := (blk6 H3).2.2.2.2.1
  obtain ⟨w6, hw6, H36, f6, gr⟩ := set_own f hw hBg3 H3 4 (.slice a5 bs.length b5)
  have n1 : g1 ≠ g3 := by have := (Array.getElem?_eq_some_iff.1 H1).1; omega
  have n2 : g2 ≠ g3 := by omega
  replace H1 := grown_blk' gr H1 (by simpa using n1)
  replace H2 := grown_blk' gr H2 (by simpa using n2)
  replace O5 := World.ownsRow.kept O5 gr (.inr (fun e => own_ne3 O5 H3 (by decide) e.symm))
  replace H3 := H36
  replace f := f6
  clear f6 H36 gr
  go_enter Tryd.func6, Tryd.ntmps6
  go_wp2_with (at_builtin; refine wpList_append_run rfl _ _ 23 23 rfl (by simp [Act.eval]) (by simp [Act.eval]) hap ?_)
  simp only [List.setIfInBounds_toArray, List.set_cons_zero, List.set_cons_succ] at H3
  clear hap hw1 hw2 hw3 hw4 hw6 z3 y34 x0 x1 x2 x3 x4 x5 q0 q1 q2 q3 q4 q5
  obtain ⟨x0, x1, x2, x3, x4, x5⟩ := blk6 H1
  obtain ⟨y0, y1, y2, y3, y4, y5⟩ := blk6 H3
  obtain ⟨w7, g7, hg7, hw7, f7, hz7, H7⟩ := boxedN f.drew.ok #[.int .i64 77, .int .u64 0, .bool false, .int .i64 0, .int .i64 78, .int .u64 0, .bool false, .int .i64 0] 45
  have f7' := (Fr.refl f.ok).drew.trans f7
  replace f := f.trans f7'
  replace H1 := f7'.heap H1
  replace H2 := f7'.heap H2
  replace H3 := f7'.heap H3
  replace O5 := own_fr O5 f7'
  clear f7
  obtain ⟨v8, w8, hap, O8, gr, _⟩ := append_src Tryd.underlying23 hiB hzB hsB hyB rfl (by decide) 23 O5 (some ⟨g7, 0, none⟩) 2 2 _ (Src.lit H7 2 2) (by simp) (by simp [Value.oneCell']) (by unfold maxLen; omega) (by omega) f.size
  have n1 := own_ne3 O5 H1 (by decide)
  have n2 := own_ne3 O5 H2 (by decide)
  have n3 := own_ne3 O5 H3 (by decide)
  have KK7 := And.intro (blk6 H3).2.2.2.2.1 (blk6 H1).2.2.2.2.1
  replace H1 := grown_blk' gr H1 n1
  replace H2 := grown_blk' gr H2 n2
  replace H3 := grown_blk' gr H3 n3
  replace f := f.row hw gr (fun k hk => (World.ownsRow.lt O5 k hk).1)
  clear n1 n2 n3 gr O5
  obtain ⟨g8, b8, rfl, hBg8, hlt8, hcap8⟩ := own_some O8 (by rintro rfl; have := O8.2; rcases this with ⟨_, h⟩ | ⟨g, cap, cur, h, _⟩; omega; cases h)
  have KK8 := And.intro (blk6 H3).2.2.2.2.1 (blk6 H1).2.2.2.2.1
  have z8 := unfroz H3 4
  obtain ⟨w9, hw9, H39, f9, gr⟩ := set_own f hw hBg3 H3 4 (.slice (some ⟨g8, 0, none⟩) bs.length b8)
  have n1 : g1 ≠ g3 := by have := (Array.getElem?_eq_some_iff.1 H1).1; omega
  have n2 : g2 ≠ g3 := by omega
  replace H1 := grown_blk' gr H1 (by simpa using n1)
  replace H2 := grown_blk' gr H2 (by simpa using n2)
  have O9 := World.ownsRow.kept O8 gr (.inr (fun e => own_ne3 O8 H3 (by decide) e.symm))
  replace H3 := H39
  replace f := f9
  clear f9 H39 gr
  simp only [List.setIfInBounds_toArray, List.set_cons_zero, List.set_cons_succ] at H3
  have hlb : (bs.length : Int) ≤ (b8 : Int) := by omega
  have hlb0 : (0 : Int) ≤ (bs.length : Int) := by omega
  obtain ⟨s7, t7⟩ := KK7
  obtain ⟨s8, t8⟩ := KK8
  have t9 := (blk6 H1).2.2.2.2.1
  go_cut [] from 12 to 22 (fun wc => wc = w9)
  case first =>
    refine Reg.wp_region_late (fun w' => w'.cell? ⟨g3, 4, none⟩ = some (.slice a5 bs.length b5) ∧ w'.cell? ⟨g1, 4, none⟩ = some (.slice A1 bs.length c1) ∧ True) 11 [0, 1, 2, 3, 6, 7, 8] [4, 5, 9, 10, 11] (by kernel_rfl) (by kernel_rfl) ⟨y4, x4, trivial⟩ ?_
    iterate 7
      refine Reg.wpLateT_step (v := ?_) rfl ?_ (fun w' hS => ?_) ?_
      rotate_left
      · simp [Region.wanted]
      · obtain ⟨s1, s2, s3⟩ := hS
        go_simp
        try (first | rfl | exact ⟨rfl, rfl⟩)
    refine Reg.wpMainT_run (v := (.slice (some ⟨g7, 0, none⟩) 2 2)) (w' := w7) rfl (by simp [Region.wanted]) ?_ ?_ ?_
    · go_simp
      try (first | rfl | exact ⟨rfl, rfl⟩)
    · exact .inr ⟨s7, t7, trivial⟩
    refine Reg.wpMainT_append rfl rfl _ _ 23 23 rfl (by simp [Act.eval, Act.put]; try rfl) (by simp [Act.eval, Act.put]; try rfl) hap (.inr ⟨s8, t8, trivial⟩) ?_
    refine Reg.wpMainT_run (v := (.slice (some ⟨g8, 0, none⟩) bs.length b8)) (w' := w8) rfl (by simp [Region.wanted]) ?_ ?_ ?_
    · go_simp
      try (first | rfl | exact ⟨rfl, rfl⟩)
    · exact .inr ⟨s8, t8, trivial⟩
    refine Reg.wpMainT_run (v := (.pointer (some ⟨g3, 4, none⟩))) (w' := w8) rfl (by simp [Region.wanted]) ?_ ?_ ?_
    · go_simp
      try (first | rfl | exact ⟨rfl, rfl⟩)
    · exact .inr ⟨s8, t8, trivial⟩
    refine Reg.wpMainT_skip (w' := w9) rfl (by simp [Region.wanted]) ?_ (.inl rfl) ?_
    · go_simp
      try (first | rfl | exact ⟨rfl, rfl⟩)
    refine Reg.wpMainT_nil ?_
    go_wp2_with fail; go_meet; rfl
  case rest =>
    subst hcut
    clear hap hw7 hw9 s7 t7 s8 t8 t9 x0 x1 x2 x3 x4 x5 y0 y1 y2 y3 y4 y5 z8 H7 O8 hlb hlb0 f7'
    obtain ⟨x0, x1, x2, x3, x4, x5⟩ := blk6 H1
    obtain ⟨y0, y1, y2, y3, y4, y5⟩ := blk6 H3
    have z9 := unfroz H3 5
    obtain ⟨w10, hw10, H310, f10, gr⟩ := set_own f hw hBg3 H3 5 (.slice none 0 0)
    replace H1 := grown_blk' gr H1 (by simpa using n1)
    replace H2 := grown_blk' gr H2 (by simpa using n2)
    replace O9 := World.ownsRow.kept O9 gr (.inr (fun e => own_ne3 O9 H3 (by decide) e.symm))
    replace H3 := H310
    replace f := f10
    clear f10 H310 gr
    simp only [List.setIfInBounds_toArray, List.set_cons_zero, List.set_cons_succ] at H3
    obtain ⟨x0, x1, x2, x3, x4, x5⟩ := blk6 H1
    go_wp2
    go_loopg [4] os.length (fun k v4 wc => ∃ (i : Nat) (aO : Option Addr) (cO : Nat) (bl : Al), v4 = .int .i64 (i : Int) ∧ k + i = os.length ∧ Hid (wc.ownsRow w.heap.size 53 13 (.slice aO i cO) i (orow os bl i).flatten) ∧ Hid (CRows wc w.heap.size os bl i) ∧ Hid (wc.heap[g3]? = some (.cells #[.int .u64 floor, .int .u64 next, .int .i64 cur, .int .i64 last, .slice (some ⟨g8, 0, none⟩) bs.length b8, .slice aO i cO] 26 (0, 0)))
      ∧ Hid (wc.heap[g1]? = some (.cells #[.int .u64 floor, .int .u64 next, .int .i64 cur, .int .i64 last, .slice A1 bs.length c1, .slice A2 os.length c2] 26 (0, 0))) ∧ Hid (wc.heap[g2]? = some (.cells #[.int .u64 0, .int .u64 0, .int .i64 0, .int .i64 0, .slice none 0 0, .slice none 0 0] 26 (0, 0)))
      ∧ Hid (wc.ownsRow w.heap.size 45 4 (.slice (some ⟨g8, 0, none⟩) (bs.length + 2) b8) (bs.length + 2) (bflat bs ++ #[.int .i64 77, .int .u64 0, .bool false, .int .i64 0, .int .i64 78, .int .u64 0, .bool false, .int .i64 0].toList)) ∧ Hid (Fr w wc))
    case atStart => exact ⟨0, none, 0, fun _ => (none, 0), rfl, by omega, Lib.hid ⟨by simp [orow], .inl ⟨rfl, rfl⟩⟩, Lib.hid (fun j hj => by omega), Lib.hid H3, Lib.hid H1, Lib.hid H2, Lib.hid O9, Lib.hid f⟩
    case round =>
      clear O9 H1 H2 H3 f x0 x1 x2 x3 x4 x5 y0 y1 y2 y3 y4 y5 z9 hw10
      obtain ⟨i, aO, cO, bl, rfl, hk, HOO, HCC, HH3, HH1, HH2, HO9, HF⟩ := hrel
      have f := HF.out
      have H1 := HH1.out
      have H3 := HH3.out
      obtain ⟨x0, x1, x2, x3, x4, x5⟩ := blk6 H1
      cases gk with
      | zero =>
        have d5 : decide ((i : Int) < (os.length : Int)) = false := decide_eq_false (by omega)
        obtain rfl : i = os.length := by omega
        have H2 := HH2.out
        have O9 := HO9.out
        have OO := HOO.out
        have OC := HCC.out
        clear HH1 HH2 HH3 HO9 HOO HCC HF
        have y5 := (blk6 H3).2.2.2.2.2
        go_wp2
        obtain ⟨w21, g21, hg21, hw21, f21, hz21, H21⟩ := boxedN f.drew.ok #[.int .i64 81, .bool false, .int .i64 0, .int .i64 0, .string ⟨#[]⟩, .int .i64 0, .int .i64 0, .int .u64 0, .int .i64 0, .string ⟨#[]⟩, .int .i64 0, .int .i64 0, .slice none 0 0, .int .i64 82, .bool false, .int .i64 0, .int .i64 0, .string ⟨#[]⟩, .int .i64 0, .int .i64 0, .int .u64 0, .int .i64 0, .string ⟨#[]⟩, .int .i64 0, .int .i64 0, .slice none 0 0] 53
        have f21' := (Fr.refl f.ok).drew.trans f21
        replace f := f.trans f21'
        replace H1 := f21'.heap H1
        replace H2 := f21'.heap H2
        replace H3 := f21'.heap H3
        replace O9 := own_fr O9 f21'
        replace OO := own_fr OO f21'
        replace OC := OC.fr f21'
        clear f21 f21'
        have s21 := (blk6 H3).2.2.2.2.2
        have t21 := (blk6 H1).2.2.2.2.2
        obtain ⟨v22, w22, hap, O22, gr, _⟩ := append_src Tryd.underlying24 hiO hzO hsO hyO rfl (by decide) 24 OO (some ⟨g21, 0, none⟩) 2 2 _ (Src.lit H21 2 2) (by simp) (by simp [Value.oneCell']) (by unfold maxLen; omega) (by omega) f.size
        have m1 := own_ne3 OO H1 (by decide)
        have m2 := own_ne3 OO H2 (by decide)
        have m3 := own_ne3 OO H3 (by decide)
        replace H1 := grown_blk' gr H1 m1
        replace H2 := grown_blk' gr H2 m2
        replace H3 := grown_blk' gr H3 m3
        replace O9 := World.ownsRow.kept O9 gr (own_ne2 O9 OO (by decide))
        have OC2 : CRows w22 w.heap.size os bl os.length := fun j hj hl => World.ownsRow.kept (OC j hj hl) gr (own_ne2 (OC j hj hl) OO (by decide))
        replace f := f.row hw gr (fun k hk => (World.ownsRow.lt OO k hk).1)
        clear m1 m2 m3 gr OO OC H21
        obtain ⟨g22, b22, rfl, hBg22, hlt22, hcap22⟩ := own_some O22 (by rintro rfl; have := O22.2; rcases this with ⟨_, h⟩ | ⟨g, cap, cur, h, _⟩; omega; cases h)
        have s22 := (blk6 H3).2.2.2.2.2
        have t22 := (blk6 H1).2.2.2.2.2
        have z22 := unfroz H3 5
        obtain ⟨w23, hw23, H323, f23, gr⟩ := set_own f hw hBg3 H3 5 (.slice (some ⟨g22, 0, none⟩) os.length b22)
        replace H1 := grown_blk' gr H1 (by simpa using n1)
        replace H2 := grown_blk' gr H2 (by simpa using n2)
        replace O9 := World.ownsRow.kept O9 gr (.inr (fun e => own_ne3 O9 H3 (by decide) e.symm))
        have OC3 : CRows w23 w.heap.size os bl os.length := fun j hj hl => World.ownsRow.kept (OC2 j hj hl) gr (.inr (fun e => own_ne3 (OC2 j hj hl) H3 (by decide) e.symm))
        replace O22 := World.ownsRow.kept O22 gr (.inr (fun e => own_ne3 O22 H3 (by decide) e.symm))
        replace H3 := H323
        replace f := f23
        clear f23 H323 gr OC2
        simp only [List.setIfInBounds_toArray, List.set_cons_zero, List.set_cons_succ] at H3
        have t23 := (blk6 H1).2.2.2.2.2
        have hlb : (os.length : Int) ≤ (b22 : Int) := by omega
        have hlb0 : (0 : Int) ≤ (os.length : Int) := by omega
        go_cut [] from 62 to 72 (fun wc => wc = w23)
        case first =>
          refine Reg.wp_region_late (fun w' => w'.cell? ⟨g3, 5, none⟩ = some (.slice aO os.length cO) ∧ w'.cell? ⟨g1, 5, none⟩ = some (.slice A2 os.length c2) ∧ True) 11 [0, 1, 2, 3, 6, 7, 8] [4, 5, 9, 10, 11] (by kernel_rfl) (by kernel_rfl) ⟨y5, x5, trivial⟩ ?_
          iterate 7
            refine Reg.wpLateT_step (v := ?_) rfl ?_ (fun w' hS => ?_) ?_
            rotate_left
            · simp [Region.wanted]
            · obtain ⟨s1, s2, s3⟩ := hS
              go_simp
              try (first | rfl | exact ⟨rfl, rfl⟩)
          refine Reg.wpMainT_run (v := (.slice (some ⟨g21, 0, none⟩) 2 2)) (w' := w21) rfl (by simp [Region.wanted]) ?_ ?_ ?_
          · go_simp
            try (first | rfl | exact ⟨rfl, rfl⟩)
          · exact .inr ⟨s21, t21, trivial⟩
          refine Reg.wpMainT_append rfl rfl _ _ 24 24 rfl (by simp [Act.eval, Act.put]; try rfl) (by simp [Act.eval, Act.put]; try rfl) hap (.inr ⟨s22, t22, trivial⟩) ?_
          refine Reg.wpMainT_run (v := (.slice (some ⟨g22, 0, none⟩) os.length b22)) (w' := w22) rfl (by simp [Region.wanted]) ?_ ?_ ?_
          · go_simp
            try (first | rfl | exact ⟨rfl, rfl⟩)
          · exact .inr ⟨s22, t22, trivial⟩
          refine Reg.wpMainT_run (v := (.pointer (some ⟨g3, 5, none⟩))) (w' := w22) rfl (by simp [Region.wanted]) ?_ ?_ ?_
          · go_simp
            try (first | rfl | exact ⟨rfl, rfl⟩)
          · exact .inr ⟨s22, t22, trivial⟩
          refine Reg.wpMainT_skip (w' := w23) rfl (by simp [Region.wanted]) ?_ (.inl rfl) ?_
          · go_simp
            try (first | rfl | exact ⟨rfl, rfl⟩)
          refine Reg.wpMainT_nil ?_
          go_wp2_with fail; go_meet; rfl
        case rest =>
          subst hcut
          clear hap hw21 hw23 s21 s22 t21 t22 t23 x0 x1 x2 x3 x4 x5 y5 z22 hlb hlb0
          obtain ⟨y0, y1, y2, y3, y4, y5⟩ := blk6 H3
          have zc0 := unfroz H2 0
          obtain ⟨x0, x1, x2, x3, x4, x5⟩ := blk6 H2
          obtain ⟨wd0, hwd0, H2n, fn, gr⟩ := set_own f hw hBg2 H2 0 (.int .u64 floor)
          replace O9 := World.ownsRow.kept O9 gr (.inr (fun e => own_ne3 O9 H2 (by decide) e.symm))
          replace OC3 : CRows wd0 w.heap.size os bl os.length := fun j hj hl => World.ownsRow.kept (OC3 j hj hl) gr (.inr (fun e => own_ne3 (OC3 j hj hl) H2 (by decide) e.symm))
          replace O22 := World.ownsRow.kept O22 gr (.inr (fun e => own_ne3 O22 H2 (by decide) e.symm))
          replace H2 := H2n
          replace f := fn
          clear H2n fn gr
          simp only [List.setIfInBounds_toArray, List.set_cons_zero, List.set_cons_succ] at H2
          have zc1 := unfroz H2 1
          obtain ⟨x0, x1, x2, x3, x4, x5⟩ := blk6 H2
          obtain ⟨wd1, hwd1, H2n, fn, gr⟩ := set_own f hw hBg2 H2 1 (.int .u64 next)
          replace O9 := World.ownsRow.kept O9 gr (.inr (fun e => own_ne3 O9 H2 (by decide) e.symm))
          replace OC3 : CRows wd1 w.heap.size os bl os.length := fun j hj hl => World.ownsRow.kept (OC3 j hj hl) gr (.inr (fun e => own_ne3 (OC3 j hj hl) H2 (by decide) e.symm))
          replace O22 := World.ownsRow.kept O22 gr (.inr (fun e => own_ne3 O22 H2 (by decide) e.symm))
          replace H2 := H2n
          replace f := fn
          clear H2n fn gr
          simp only [List.setIfInBounds_toArray, List.set_cons_zero, List.set_cons_succ] at H2
          have zc2 := unfroz H2 2
          obtain ⟨x0, x1, x2, x3, x4, x5⟩ := blk6 H2
          obtain ⟨wd2, hwd2, H2n, fn, gr⟩ := set_own f hw hBg2 H2 2 (.int .i64 cur)
          replace O9 := World.ownsRow.kept O9 gr (.inr (fun e => own_ne3 O9 H2 (by decide) e.symm))
          replace OC3 : CRows wd2 w.heap.size os bl os.length := fun j hj hl => World.ownsRow.kept (OC3 j hj hl) gr (.inr (fun e => own_ne3 (OC3 j hj hl) H2 (by decide) e.symm))
          replace O22 := World.ownsRow.kept O22 gr (.inr (fun e => own_ne3 O22 H2 (by decide) e.symm))
          replace H2 := H2n
          replace f := fn
          clear H2n fn gr
          simp only [List.setIfInBounds_toArray, List.set_cons_zero, List.set_cons_succ] at H2
          have zc3 := unfroz H2 3
          obtain ⟨x0, x1, x2, x3, x4, x5⟩ := blk6 H2
          obtain ⟨wd3, hwd3, H2n, fn, gr⟩ := set_own f hw hBg2 H2 3 (.int .i64 last)
          replace O9 := World.ownsRow.kept O9 gr (.inr (fun e => own_ne3 O9 H2 (by decide) e.symm))
          replace OC3 : CRows wd3 w.heap.size os bl os.length := fun j hj hl => World.ownsRow.kept (OC3 j hj hl) gr (.inr (fun e => own_ne3 (OC3 j hj hl) H2 (by decide) e.symm))
          replace O22 := World.ownsRow.kept O22 gr (.inr (fun e => own_ne3 O22 H2 (by decide) e.symm))
          replace H2 := H2n
          replace f := fn
          clear H2n fn gr
          simp only [List.setIfInBounds_toArray, List.set_cons_zero, List.set_cons_succ] at H2
          have zc4 := unfroz H2 4
          obtain ⟨x0, x1, x2, x3, x4, x5⟩ := blk6 H2
          obtain ⟨wd4, hwd4, H2n, fn, gr⟩ := set_own f hw hBg2 H2 4 (.slice (some ⟨g8, 0, none⟩) bs.length b8)
          replace O9 := World.ownsRow.kept O9 gr (.inr (fun e => own_ne3 O9 H2 (by decide) e.symm))
          replace OC3 : CRows wd4 w.heap.size os bl os.length := fun j hj hl => World.ownsRow.kept (OC3 j hj hl) gr (.inr (fun e => own_ne3 (OC3 j hj hl) H2 (by decide) e.symm))
          replace O22 := World.ownsRow.kept O22 gr (.inr (fun e => own_ne3 O22 H2 (by decide) e.symm))
          replace H2 := H2n
          replace f := fn
          clear H2n fn gr
          simp only [List.setIfInBounds_toArray, List.set_cons_zero, List.set_cons_succ] at H2
          have zc5 := unfroz H2 5
          obtain ⟨x0, x1, x2, x3, x4, x5⟩ := blk6 H2
          obtain ⟨wd5, hwd5, H2n, fn, gr⟩ := set_own f hw hBg2 H2 5 (.slice (some ⟨g22, 0, none⟩) os.length b22)
          replace O9 := World.ownsRow.kept O9 gr (.inr (fun e => own_ne3 O9 H2 (by decide) e.symm))
          replace OC3 : CRows wd5 w.heap.size os bl os.length := fun j hj hl => World.ownsRow.kept (OC3 j hj hl) gr (.inr (fun e => own_ne3 (OC3 j hj hl) H2 (by decide) e.symm))
          replace O22 := World.ownsRow.kept O22 gr (.inr (fun e => own_ne3 O22 H2 (by decide) e.symm))
          replace H2 := H2n
          replace f := fn
          clear H2n fn gr
          simp only [List.setIfInBounds_toArray, List.set_cons_zero, List.set_cons_succ] at H2
          obtain ⟨x0, x1, x2, x3, x4, x5⟩ := blk6 H2
          go_wp2
          refine bodyPost_ret (results_cell_row rfl _ _ g2 26 _ (0, 0) _ rfl H2 Tryd.underlying26 rfl (by kernel_rfl)) rfl ?_
          obtain ⟨e1, e2, e3⟩ := copied_end ⟨floor, next, cur, last, bs, os⟩ O9 O22 OC3
          exact HPost.out _ _ _ _ _ bl f e1 e2 e3
      | succ k =>
        have hi : i < os.length := by omega
        have d5 : decide ((i : Int) < (os.length : Int)) = true := decide_eq_true (by omega)
        obtain ⟨gO, oO, hA, y0, y1, y2, y3, y4, y5, y6, y7, y8, y9, y10, y11, y12, hCc, hcl⟩ := (hO.fr f).get hi
        have hcn1 := hcn _ (List.getElem_mem hi)
        have hal1 := hal i hi
        have hobd : os.getD i Obj'.nil = os[i] := by simp [List.getD, hi]
        obtain ⟨ob, hob⟩ : ∃ ob, os[i] = ob := ⟨_, rfl⟩
        have HOBD : Hid (os.getD i Obj'.nil = ob) := Lib.hid (hobd.trans hob)
        have HOB : Hid (∀ h : i < os.length, os[i] = ob) := Lib.hid (fun _ => hob)
        rw [hob] at y0 y1 y2 y3 y4 y5 y6 y7 y8 y9 y10 y11 y12 hcl hCc hcn1
        clear hob hobd
        subst hA
        obtain ⟨id, head, nd, pb, pp, cs⟩ := ob
        dsimp only at y0 y1 y2 y3 y4 y5 y6 y7 y8 y9 y10 y11 y12 hcl hCc hcn1
        obtain ⟨al1, hal2⟩ : ∃ x, al i = x := ⟨_, rfl⟩
        rw [hal2] at y12 hcl hCc hal1
        clear hal2
        obtain ⟨A, c⟩ := al1
        dsimp only at y12 hcl hCc hal1
        have q := Fr.refl f.ok
        obtain ⟨w11, g11, hg11, hw11, q11, hz11, H11⟩ := boxedN f.ok #[.int .i64 id, .bool head, .int .i64 nd.ty, .int .i64 nd.par, .string nd.name, .int .i64 nd.size, .int .i64 nd.mode, .int .u64 nd.stamp, .int .i64 nd.shadow, .string nd.tgt, .int .i64 pb, .int .i64 pp, .slice A cs.length c] 53
        have hBg11 : wr.heap.size ≤ g11 := by omega
        replace q := q11
        clear q11
        obtain ⟨k0, k1, k2, k3, k4, k5, k6, k7, k8, k9, k10, k11, k12⟩ := blk13 H11
        obtain ⟨w12, g12, hg12, hw12, q12, hz12, H12⟩ := boxedN q.ok #[] 59
        have hBg12 : wr.heap.size ≤ g12 := by rw [← hg12]; exact q.size
        replace q := q.trans q12
        replace H11 := q12.heap H11
        clear q12
        obtain ⟨k0, k1, k2, k3, k4, k5, k6, k7, k8, k9, k10, k11, k12⟩ := blk13 H11
        have O12 : w12.ownsRow wr.heap.size 59 4 (.slice (some ⟨g12, 0, none⟩) 0 0) 0 [] := ⟨by simp, .inr ⟨g12, 0, #[], rfl, hBg12, H12, by omega, by simp, by simp, by simp⟩⟩
        obtain ⟨v13, w13, hap, O13, gr, _⟩ := append_src Tryd.underlying51 hiC hzC hsC hyC rfl (by decide) 51 O12 A cs.length c (cflat cs) ((hCc.fr q).src hal1) (by unfold cflat; rw [flat_length (ccells_len cs), List.length_map]) (cflat_one cs) (by unfold maxLen; omega) (by omega) q.size
        simp only [Nat.zero_add, List.nil_append] at O13
        have m1 := own_ne3 O12 H11 (by decide)
        replace H11 := grown_blk' gr H11 m1
        replace q := q.row f.ok gr (fun k hk => (World.ownsRow.lt O12 k hk).1)
        clear m1 gr O12 H12
        obtain ⟨a13, b13, rfl⟩ := own_form O13
        obtain ⟨k0, k1, k2, k3, k4, k5, k6, k7, k8, k9, k10, k11, k12⟩ := blk13 H11
        have z13 := unfroz H11 12
        obtain ⟨w14, hw14, H1114, q14, gr⟩ := set_own q f.ok hBg11 H11 12 (.slice a13 cs.length b13)
        replace O13 := World.ownsRow.kept O13 gr (.inr (fun e => own_ne3 O13 H11 (by decide) e.symm))
        replace H11 := H1114
        replace q := q14
        clear q14 H1114 gr
        simp only [List.setIfInBounds_toArray, List.set_cons_zero, List.set_cons_succ] at H11
        have y120 := y12
        replace y12 := q.cell y12
        have hlc : (cs.length : Int) ≤ (c : Int) := by omega
        go_wp2_with (at_builtin; refine wpList_append_run rfl _ _ 51 51 rfl (by simp [Act.eval]) (by simp [Act.eval]) hap ?_)
        clear hap hw11 hw12 hw14 z13 k0 k1 k2 k3 k4 k5 k6 k7 k8 k9 k10 k11 k12 y0 y1 y2 y3 y4 y5 y6 y7 y8 y9 y10 y11
        obtain ⟨k0, k1, k2, k3, k4, k5, k6, k7, k8, k9, k10, k11, k12⟩ := blk13 H11
        have p5 := q.cell x5
        obtain ⟨w15, g15, hg15, hw15, q15, hz15, H15⟩ := boxedN q.drew.ok #[.int .i64 79, .int .i64 0, .int .i64 0, .int .i64 0, .int .i64 80, .int .i64 0, .int .i64 0, .int .i64 0] 59
        have q15' := (Fr.refl q.ok).drew.trans q15
        replace q := q.trans q15'
        replace H11 := q15'.heap H11
        replace O13 := own_fr O13 q15'
        have p5a := q15'.cell p5
        have y12a := q15'.cell y12
        have s15 := (blk13 H11).2.2.2.2.2.2.2.2.2.2.2.2
        clear q15 q15'
        obtain ⟨v16, w16, hap, O16, gr, _⟩ := append_src Tryd.underlying51 hiC hzC hsC hyC rfl (by decide) 51 O13 (some ⟨g15, 0, none⟩) 2 2 _ (Src.lit H15 2 2) (by simp) (by simp [Value.oneCell']) (by unfold maxLen; omega) (by omega) q.size
        have m1 := own_ne3 O13 H11 (by decide)
        replace H11 := grown_blk' gr H11 m1
        replace q := q.row f.ok gr (fun k hk => (World.ownsRow.lt O13 k hk).1)
        clear m1 gr O13 H15
        have p5b := q.cell x5
        have y12b := q.cell y120
        obtain ⟨g16, b16, rfl, hBg16, hlt16, hcap16⟩ := own_some O16 (by rintro rfl; have := O16.2; rcases this with ⟨_, h⟩ | ⟨g, cap, cur, h, _⟩; omega; cases h)
        have s16 := (blk13 H11).2.2.2.2.2.2.2.2.2.2.2.2
        have z16 := unfroz H11 12
        obtain ⟨w17, hw17, H1117, q17, gr⟩ := set_own q f.ok hBg11 H11 12 (.slice (some ⟨g16, 0, none⟩) cs.length b16)
        have O17 := World.ownsRow.kept O16 gr (.inr (fun e => own_ne3 O16 H11 (by decide) e.symm))
        replace H11 := H1117
        replace q := q17
        clear q17 H1117 gr
        simp only [List.setIfInBounds_toArray, List.set_cons_zero, List.set_cons_succ] at H11
        have p5c := q.cell x5
        have y12c := q.cell y120
        have hlb : (cs.length : Int) ≤ (b16 : Int) := by omega
        have hlb0 : (0 : Int) ≤ (cs.length : Int) := by omega
        go_cut [] from 41 to 55 (fun wc => wc = w17)
        case first =>
          refine Reg.wp_region_late (fun w' => w'.cell? ⟨g11, 12, none⟩ = some (.slice a13 cs.length b13) ∧ w'.cell? ⟨g1, 5, none⟩ = some (.slice (some ⟨gO, oO, none⟩) os.length c2) ∧ w'.cell? ⟨gO, oO + i * 13 + 12, none⟩ = some (.slice A cs.length c)) 15 [0, 1, 2, 3, 6, 7, 8, 9, 10, 11, 12] [4, 5, 13, 14, 15] (by kernel_rfl) (by kernel_rfl) ⟨k12, p5, y12⟩ ?_
          iterate 11
            refine Reg.wpLateT_step (v := ?_) rfl ?_ (fun w' hS => ?_) ?_
            rotate_left
            · simp [Region.wanted]
            · obtain ⟨s1, s2, s3⟩ := hS
              go_simp
              try (first | rfl | exact ⟨rfl, rfl⟩)
          refine Reg.wpMainT_run (v := (.slice (some ⟨g15, 0, none⟩) 2 2)) (w' := w15) rfl (by simp [Region.wanted]) ?_ ?_ ?_
          · go_simp
            try (first | rfl | exact ⟨rfl, rfl⟩)
          · exact .inr ⟨s15, p5a, y12a⟩
          refine Reg.wpMainT_append rfl rfl _ _ 51 51 rfl (by simp [Act.eval, Act.put]; try rfl) (by simp [Act.eval, Act.put]; try rfl) hap (.inr ⟨s16, p5b, y12b⟩) ?_
          refine Reg.wpMainT_run (v := (.slice (some ⟨g16, 0, none⟩) cs.length b16)) (w' := w16) rfl (by simp [Region.wanted]) ?_ ?_ ?_
          · go_simp
            try (first | rfl | exact ⟨rfl, rfl⟩)
          · exact .inr ⟨s16, p5b, y12b⟩
          refine Reg.wpMainT_run (v := (.pointer (some ⟨g11, 12, none⟩))) (w' := w16) rfl (by simp [Region.wanted]) ?_ ?_ ?_
          · go_simp
            try (first | rfl | exact ⟨rfl, rfl⟩)
          · exact .inr ⟨s16, p5b, y12b⟩
          refine Reg.wpMainT_skip (w' := w17) rfl (by simp [Region.wanted]) ?_ (.inl rfl) ?_
          · go_simp
            try (first | rfl | exact ⟨rfl, rfl⟩)
          refine Reg.wpMainT_nil ?_
          go_wp2_with fail; go_meet; rfl
        case rest =>
          subst hcut
          clear hap hw15 hw17 z16 s15 s16 p5 p5a p5b p5c y12 y12a y12b y12c y120 k0 k1 k2 k3 k4 k5 k6 k7 k8 k9 k10 k11 k12 hlb hlb0 O16
          obtain ⟨k0, k1, k2, k3, k4, k5, k6, k7, k8, k9, k10, k11, k12⟩ := blk13 H11
          replace H1 := q.heap H1
          have H2 := q.heap HH2.out
          replace H3 := q.heap H3
          have O9 := own_fr HO9.out q
          have OO := own_fr HOO.out q
          have OC := HCC.out.fr q
          have O17' := own_low O17 f.size
          replace f := f.trans q
          clear HH1 HH2 HH3 HO9 HOO HCC HF q
          clear O17 hBg11 hBg12 hBg16 hlt16
          obtain ⟨y0, y1, y2, y3, y4, y5⟩ := blk6 H3
          obtain ⟨w18, g18, hg18, hw18, f18, hz18, H18⟩ := boxedN f.ok #[.int .i64 id, .bool head, .int .i64 nd.ty, .int .i64 nd.par, .string nd.name, .int .i64 nd.size, .int .i64 nd.mode, .int .u64 nd.stamp, .int .i64 nd.shadow, .string nd.tgt, .int .i64 pb, .int .i64 pp, .slice (some ⟨g16, 0, none⟩) cs.length b16] 53
          replace f := f.trans f18
          replace H1 := f18.heap H1
          replace H2 := f18.heap H2
          replace H3 := f18.heap H3
          replace O9 := own_fr O9 f18
          replace OO := own_fr OO f18
          replace OC := OC.fr f18
          replace O17' := own_fr O17' f18
          clear f18
          obtain ⟨v19, w19, hap, O19, gr, _⟩ := append_src Tryd.underlying24 hiO hzO hsO hyO rfl (by decide) 24 OO (some ⟨g18, 0, none⟩) 1 1 _ (Src.lit H18 1 1) (by simp) (by simp [Value.oneCell']) (by unfold maxLen; omega) (by omega) f.size
          have m1 := own_ne3 OO H1 (by decide)
          have m2 := own_ne3 OO H2 (by decide)
          have m3 := own_ne3 OO H3 (by decide)
          replace H1 := grown_blk' gr H1 m1
          replace H2 := grown_blk' gr H2 m2
          replace H3 := grown_blk' gr H3 m3
          replace O9 := World.ownsRow.kept O9 gr (own_ne2 O9 OO (by decide))
          replace O17' := World.ownsRow.kept O17' gr (own_ne2 O17' OO (by decide))
          have OC2 : CRows w19 w.heap.size os bl i := fun j hj hl => World.ownsRow.kept (OC j hj hl) gr (own_ne2 (OC j hj hl) OO (by decide))
          replace f := f.row hw gr (fun k hk => (World.ownsRow.lt OO k hk).1)
          clear m1 m2 m3 gr OO OC H18
          obtain ⟨a19, b19, rfl⟩ := own_form O19
          have s19 := (blk6 H3).2.2.2.2.2
          have z19 := unfroz H3 5
          obtain ⟨w20, hw20, H320, f20, gr⟩ := set_own f hw hBg3 H3 5 (.slice a19 (i + 1) b19)
          replace H1 := grown_blk' gr H1 (by simpa using n1)
          replace H2 := grown_blk' gr H2 (by simpa using n2)
          replace O9 := World.ownsRow.kept O9 gr (.inr (fun e => own_ne3 O9 H3 (by decide) e.symm))
          replace O17' := World.ownsRow.kept O17' gr (.inr (fun e => own_ne3 O17' H3 (by decide) e.symm))
          have OC3 : CRows w20 w.heap.size os bl i := fun j hj hl => World.ownsRow.kept (OC2 j hj hl) gr (.inr (fun e => own_ne3 (OC2 j hj hl) H3 (by decide) e.symm))
          replace O19 := World.ownsRow.kept O19 gr (.inr (fun e => own_ne3 O19 H3 (by decide) e.symm))
          replace H3 := H320
          replace f := f20
          clear f20 H320 gr OC2
          simp only [List.setIfInBounds_toArray, List.set_cons_zero, List.set_cons_succ] at H3
          go_wp2_with (at_builtin; refine wpList_append_run rfl _ _ 24 24 rfl (by simp [Act.eval]) (by simp [Act.eval]) hap ?_)
          have hcong := orow_congr os (upd bl i (some ⟨g16, 0, none⟩) b16) bl i (fun j hj => upd_ne bl i _ _ j (by omega))
          have hO' : (orow os (upd bl i (some ⟨g16, 0, none⟩) b16) (i + 1)).flatten = (orow os bl i).flatten ++ ocells ⟨id, head, nd, pb, pp, cs⟩ (some ⟨g16, 0, none⟩) b16 := by
            rw [orow_succ, hcong, List.flatten_append, HOBD.out, upd_self]; simp
          go_roundg k
          case measure => omega
          case rel => exact ⟨i + 1, a19, b19, upd bl i (some ⟨g16, 0, none⟩) b16, by simp, by omega, Lib.hid (by rw [hO']; exact O19), Lib.hid (fun j hj hl => by
              by_cases hji : j = i
              · subst hji
                rw [upd_self, HOB.out hl]
                exact O17'
              · rw [upd_ne _ _ _ _ _ hji]
                exact OC3 j (by omega) hl), Lib.hid H3, Lib.hid H1, Lib.hid H2, Lib.hid O9, Lib.hid f⟩
theorem copied_any (s : St) (A1 : Option Addr) (c1 : Nat) (A2 : Option Addr) (c2 : Nat) (al : Al) (w : World) (hw : Ok w) (hB : BRow w A1 s.bs) (hO : ORow w A2 al s.os) (hwf : s.wf) (hcn : ∀ o ∈ s.os, o.cs.length ≤ 1099511627776) (hos : s.os.length ≤ 549755813888)
    (hA1 : A1 = none → c1 = 0) (hal : ∀ i, i < s.os.length → (al i).1 = none → (al i).2 = 0) :
    Calls Tryd.prog 6 #[.agg #[.int .u64 s.floor, .int .u64 s.next, .int .i64 s.cur, .int .i64 s.last, .slice A1 s.bs.length c1, .slice A2 s.os.length c2]] w fun e w' => ∃ B1 d1 B2 d2 bl, e = .returned (.agg #[.int .u64 s.floor, .int .u64 s.next, .int .i64 s.cur, .int .i64 s.last, .slice B1 s.bs.length d1, .slice B2 s.os.length d2]) ∧ Fr w w' ∧ BRow w' B1 s.bs ∧ ORow w' B2 bl s.os ∧ Room w' s B1 d1 B2 d2 bl :=
  copied_go _ s A1 c1 A2 c2 al w hw hB hO hwf hcn hos hA1 hal (Lib.hid fun w' B1 d1 B2 d2 bl h1 h2 h3 h4 => ⟨B1, d1, B2, d2, bl, rfl, h1, h2, h3, h4⟩)
end Go.Proofs.YtefkklgelmbaiaaDoor
set_option linter.unusedSimpArgs false
set_option linter.unusedVariables false
namespace Go.Proofs.YtefkklgelmbaiaaDoor
open Go.RowKit Go.Proofs

theorem same_bytes {w : World} (hw : Ok w) {B B' : Nat} {A A' : Option Addr} {n n' c c' : Nat} {xs : List Int} (h : OwnB w B (.slice A n c) xs) (h' : OwnB w B' (.slice A' n' c') xs) :
    Calls Tryd.prog 9 #[.slice A n c, .slice A' n' c'] w fun e w' => e = .returned (.bool true) ∧ Fr w w' := by
  obtain ⟨rfl, h2, h3⟩ := h.toC
  obtain ⟨rfl, h5, h6⟩ := h'.toC
  refine (Psame.shalelaw14_same.calls A c xs A' c' xs true w h3 h2 h6 h5 ?_).mono fun e w' ⟨he, hb⟩ => ⟨he, Fr.of hw hb.below⟩
  unfold Psame.shalelaw14_same.f
  simp
theorem no_any (x : Int) (w : World) (hw : Ok w) : Calls Tryd.prog 8 #[.int .i64 x] w fun e w' => e = .returned (.int .i64 x) ∧ Fr w w' :=
  (Pno.shalelaw14_no.calls x x w rfl).mono fun e w' ⟨he, hb⟩ => ⟨he, Fr.of hw hb.below⟩

set_option maxHeartbeats 12800000 in
set_option maxRecDepth 100000 in
theorem law_PointPacks (s : St) (A1 : Option Addr) (c1 : Nat) (A2 : Option Addr) (c2 : Nat) (al : Al) (w : World) (hw : Ok w) (hB : BRow w A1 s.bs) (hO : ORow w A2 al s.os) (hwf : s.wf) (hnm : ∀ o ∈ s.os, o.nd.name.size ≤ 1073741824) (hcn : ∀ o ∈ s.os, o.cs.length ≤ 1099511627776) (hos : s.os.length ≤ 549755813888)
    (hA1 : A1 = none → c1 = 0) (hal : ∀ i, i < s.os.length → (al i).1 = none → (al i).2 = 0) :
    Calls Tryd.prog 3 #[.agg #[.int .u64 s.floor, .int .u64 s.next, .int .i64 s.cur, .int .i64 s.last, .slice A1 s.bs.length c1, .slice A2 s.os.length c2]] w fun e w' => e = .returned (.bool true) ∧ Fr w w' := by
  have HR := Lib.hid (fun W (f : Fr w W) => rPack_any s A1 c1 A2 c2 al W f.ok (hB.fr f) (hO.fr f) hwf hnm)
  have HC := Lib.hid (fun W (f : Fr w W) => copied_any s A1 c1 A2 c2 al W f.ok (hB.fr f) (hO.fr f) hwf hcn hos hA1 hal)
  have HP := Lib.hid (fun W B1 d1 B2 d2 bl h1 h2 h3 => pPack_any s B1 d1 B2 d2 bl W h1 h2 h3 hwf hnm)
  have HK := Lib.hid (fun W (f : Fr w W) B1 d1 B2 d2 bl h1 h2 h3 => kept_true s A1 B1 A2 B2 c1 d1 c2 d2 al bl W f.ok (hB.fr f) h1 (hO.fr f) h2 h3 hwf hcn)
  clear hB hO hwf hnm hcn hos hA1 hal
  obtain ⟨w1, g1, hg1, hw1, f, hz1, H⟩ := boxedN hw #[.int .u64 s.floor, .int .u64 s.next, .int .i64 s.cur, .int .i64 s.last, .slice A1 s.bs.length c1, .slice A2 s.os.length c2] 26
  obtain ⟨x0, x1, x2, x3, x4, x5⟩ := blk6 H
  have hE : ((resE s : Int) == resE s) = true := by simp
  go_enter Tryd.func3, Tryd.ntmps3
  go_wp2_with (first
    | (go_at_call 5; refine (HR.out _ f).mono ?_; rintro e wx ⟨q, v1, rfl, O1⟩; obtain ⟨a1, b1, hv1⟩ := O1.form; obtain ⟨n1, hn1⟩ : ∃ n, (resL s).length = n := ⟨_, rfl⟩; rw [hn1] at hv1; subst hv1; clear hn1; replace H := q.heap H; replace f := f.trans q; clear q; obtain ⟨x0, x1, x2, x3, x4, x5⟩ := blk6 H)
    | (go_at_call 6; refine (HC.out _ f).mono ?_; rintro e wx ⟨B1, d1, B2, d2, bl, rfl, q, hB', hO', hR'⟩; replace H := q.heap H; replace f := f.trans q; replace O1 := O1.fr q; clear q; obtain ⟨w5, g5, hg5, hw5, q, hz5, H5⟩ := boxedN f.ok #[.int .u64 s.floor, .int .u64 s.next, .int .i64 s.cur, .int .i64 s.last, .slice B1 s.bs.length d1, .slice B2 s.os.length d2] 26; replace H := q.heap H; replace f := f.trans q; replace O1 := O1.fr q; replace hB' := hB'.fr q; replace hO' := hO'.fr q; replace hR' := hR'.fr q; clear q; obtain ⟨x0, x1, x2, x3, x4, x5⟩ := blk6 H; obtain ⟨y0, y1, y2, y3, y4, y5⟩ := blk6 H5)
    | (go_at_call 7; refine (HP.out _ B1 d1 B2 d2 bl f.ok hB' hO').mono ?_; rintro e wx ⟨q, v2, rfl, O2⟩; obtain ⟨a2, b2, hv2⟩ := O2.form; obtain ⟨n2, hn2⟩ : ∃ n, (resL s).length = n := ⟨_, rfl⟩; rw [hn2] at hv2; subst hv2; clear hn2; replace H := q.heap H; replace H5 := q.heap H5; replace f := f.trans q; replace O1 := O1.fr q; replace hB' := hB'.fr q; replace hO' := hO'.fr q; replace hR' := hR'.fr q; clear q; obtain ⟨x0, x1, x2, x3, x4, x5⟩ := blk6 H; obtain ⟨y0, y1, y2, y3, y4, y5⟩ := blk6 H5)
    | (go_at_call 8; refine (no_any _ _ f.ok).mono ?_; rintro e wx ⟨rfl, q⟩; replace H := q.heap H; replace H5 := q.heap H5; replace f := f.trans q; replace O1 := O1.fr q; replace O2 := O2.fr q; replace hB' := hB'.fr q; replace hO' := hO'.fr q; replace hR' := hR'.fr q; clear q; obtain ⟨x0, x1, x2, x3, x4, x5⟩ := blk6 H; obtain ⟨y0, y1, y2, y3, y4, y5⟩ := blk6 H5)
    | (go_at_call 9; refine (same_bytes f.ok O2 O1).mono ?_; rintro e wx ⟨rfl, q⟩; replace H := q.heap H; replace H5 := q.heap H5; replace f := f.trans q; replace hB' := hB'.fr q; replace hO' := hO'.fr q; replace hR' := hR'.fr q; clear q O1 O2; obtain ⟨x0, x1, x2, x3, x4, x5⟩ := blk6 H; obtain ⟨y0, y1, y2, y3, y4, y5⟩ := blk6 H5)
    | (go_at_call 10; refine (HK.out _ f B1 d1 B2 d2 bl hB' hO' hR').mono ?_; rintro e wx ⟨rfl, q⟩; replace f := f.trans q; clear q))
  go_ret
  exact ⟨rfl, f⟩
end Go.Proofs.YtefkklgelmbaiaaDoor
