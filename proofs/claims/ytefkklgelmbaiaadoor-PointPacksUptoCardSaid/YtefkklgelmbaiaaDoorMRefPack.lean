/- shaleref14.Pack: a state's bytes. (under way) -/
import Derived.Test.YtefkklgelmbaiaaDoorMRef
import Derived.Test.YtefkklgelmbaiaaDoorMProg
set_option linter.unusedSimpArgs false
set_option linter.unusedVariables false
namespace Go.Proofs.YtefkklgelmbaiaaDoor
open Go.RowKit Go.Proofs

theorem put14_lit (x : Int) (n : Int) (h0 : 0 ≤ n) (h8 : n ≤ 8) (hx : U64 x) (w : World) (hw : Ok w) :
    Calls Tryd.prog 15 #[.int .u64 x, .int .i64 n] w fun e w' => Fr w w' ∧ ∃ v, e = .returned v ∧ OwnB w' w.heap.size v (le x n.toNat) := by
  obtain ⟨m, rfl⟩ : ∃ m : Nat, n = (m : Int) := ⟨n.toNat, by omega⟩
  rw [Int.toNat_natCast]
  exact put14_any x m (by omega) hx w hw
theorem lit_byte {w : World} (hw : Ok w) (B : Nat) (x : Int) (hB : B ≤ w.heap.size) : ∃ w1 g, w.heap.size = g ∧ w.alloc (.cells #[.int .u8 x] 5) = w1 ∧ Fr w w1 ∧ OwnB w1 B (.slice (some ⟨g, 0, none⟩) 1 1) [x] :=
  ⟨_, _, rfl, rfl, (Fr.refl hw).alloc _, ⟨by simp, .inr ⟨w.heap.size, 1, #[.int .u8 x], rfl, hB, heap_alloc_new w _, Nat.le_refl _, by decide, rfl, rfl⟩⟩⟩
theorem le_one {x : Int} (h0 : 0 ≤ x) (h1 : x ≤ 255) : le x 1 = [x] := by
  unfold le; rw [show x % 256 = x by omega]; rfl
theorem OwnB.form3 {w : World} {B : Nat} {v : Value} {xs : List Int} (h : OwnB w B v xs) : ∃ a n c, v = .slice a n c := by
  obtain ⟨a, c, hv⟩ := h.form
  exact ⟨a, _, c, hv⟩
/-- at a step of a region that draws (go_region_held3): an append whose run is known -/
theorem step_append_run {P : Program} {ops : Array Oper} {o : Oper} {a : Act} {w : World} {K : Act → World → Prop} {Q : Exit → Act → World → Prop} {E : Prop} (hgd : o.guard = none) (s x : Operand) (t1 t2 : TypeId)
    (ho : o.op = .call { callee := .builtin .append, args := #[s, x], argTypes := #[t1, t2] }) {v u v' : Value} {w' : World} (hs : a.eval s = v) (hx : a.eval x = u)
    (hr : (Builtin.append_ #[t1, t2] o.type #[v, u]).run P w = .ok v' w') (h : K (a.put o.dst v') w') : if Region.wanted o (yielded ops a.tmps) = true then Oper.wp P o a w K Q else E := by
  have hw : Region.wanted o (yielded ops a.tmps) = true := by simp [Region.wanted, hgd]
  rw [if_pos hw]
  unfold Oper.wp execOp
  simp only [ho, resolve, invoke, builtin, Sem.run_bind, Sem.run_pure, Result.andThen_ok, List.map_toArray, List.map_cons, List.map_nil, hs, hx, hr]
  exact h
set_option maxRecDepth 100000 in
theorem yes14_any (b : Bool) (w : World) (hw : Ok w) : Calls Tryd.prog 16 #[.bool b] w fun e w' => e = .returned (.int .u64 (yesI b)) ∧ Fr w w' := by
  cases b
  · go_enter Tryd.func16, Tryd.ntmps16
    go_wp2
    go_ret
    exact ⟨rfl, Fr.refl hw⟩
  · go_enter Tryd.func16, Tryd.ntmps16
    go_wp2
    go_ret
    exact ⟨rfl, Fr.refl hw⟩

set_option maxHeartbeats 12800000 in
set_option maxRecDepth 100000 in
theorem rPack_go (Post : Ending → World → Prop) (s : St) (A1 : Option Addr) (c1 : Nat) (A2 : Option Addr) (c2 : Nat) (al : Al) (w : World) (hw : Ok w) (hB : BRow w A1 s.bs) (hO : ORow w A2 al s.os) (hwf : s.wf) (hnm : ∀ o ∈ s.os, o.nd.name.size ≤ 1073741824)
    (HPost : Hid (∀ w' v, Fr w w' → OwnB w' w.heap.size v (resL s) → Post (.returned (.tuple #[v, .int .i64 (resE s)])) w')) :
    Calls Tryd.prog 5 #[.agg #[.int .u64 s.floor, .int .u64 s.next, .int .i64 s.cur, .int .i64 s.last, .slice A1 s.bs.length c1, .slice A2 s.os.length c2]] w Post := by
  have HGd := Lib.hid (fun W (f : Fr w W) => may_any s A1 c1 A2 c2 al W f.ok (hB.fr f) (hO.fr f) hwf)
  obtain ⟨w1, g, hg, hw1, f, hz1, H⟩ := boxedN hw #[.int .u64 s.floor, .int .u64 s.next, .int .i64 s.cur, .int .i64 s.last, .slice A1 s.bs.length c1, .slice A2 s.os.length c2] 26
  obtain ⟨x0, x1, x2, x3, x4, x5⟩ := blk6 H
  cases hm : mayB s with
  | false =>
    have HM := Lib.hid hm
    have hr1 : resE s = 140 := by unfold resE; rw [hm]; rfl
    have hr2 : resL s = [] := by unfold resL; rw [hm]; rfl
    rw [hr1, hr2] at HPost
    clear hm hr1 hr2
    go_enter Tryd.func5, Tryd.ntmps5
    go_wp2_with (go_at_call 14; refine (HGd.out _ f).mono ?_; rw [HM.out]; rintro e wx ⟨rfl, q⟩; replace f := f.trans q; clear q)
    exact HPost.out _ _ f (.nil _ _)
  | true =>
    have HM := Lib.hid hm
    have hr1 : resE s = 0 := by unfold resE; rw [hm]; rfl
    have hr2 : resL s = packL s := by unfold resL; rw [hm]; rfl
    rw [hr1, hr2] at HPost
    unfold mayB at hm
    simp only [Bool.and_eq_true, decide_eq_true_eq] at hm
    obtain ⟨⟨⟨k1, k2, k3, k4, k5, k6, k7, k8⟩, hbs⟩, hos⟩ := hm
    have HBS := Lib.hid (fun b hb => block_facts (List.all_eq_true.1 hbs b hb))
    have HOS := Lib.hid (objs_mem hos)
    have HOL := Lib.hid (objsL_le s.os (objs_mem hos))
    clear hbs hos hr1 hr2
    obtain ⟨u1, u2, _, _, hbw, how, _, _⟩ := hwf
    obtain ⟨u1, u1'⟩ := u1
    obtain ⟨u2, u2'⟩ := u2
    have HBW := Lib.hid hbw
    have HOW := Lib.hid how
    clear hbw how
    obtain ⟨floor, next, cur, last, bs, os⟩ := s
    dsimp only at *
    have HL : Hid (packL ⟨floor, next, cur, last, bs, os⟩ = le floor 8 ++ le next 8 ++ le (cur + 1) 4 ++ le (last + 1) 4 ++ le (bs.length : Int) 4 ++ blocksL bs bs.length ++ le (os.length : Int) 4 ++ objsL os os.length) := Lib.hid (by unfold packL headL blocksL objsL; simp only [List.take_length])
    have wa1 : IntKind.i64.wrap (cur + 1) = cur + 1 := IntWalk.i64_in _ ⟨by omega, by omega⟩
    have wa2 : IntKind.i64.wrap (last + 1) = last + 1 := IntWalk.i64_in _ ⟨by omega, by omega⟩
    have wa3 : IntKind.u64.wrap (cur + 1) = cur + 1 := u64_in ⟨by omega, by omega⟩
    have wa4 : IntKind.u64.wrap (last + 1) = last + 1 := u64_in ⟨by omega, by omega⟩
    go_enter Tryd.func5, Tryd.ntmps5
    go_wp2_with (go_at_call 14; refine (HGd.out _ f).mono ?_; rw [HM.out]; rintro e wx ⟨rfl, q⟩; replace H := q.heap H; replace f := f.trans q; clear q; obtain ⟨x0, x1, x2, x3, x4, x5⟩ := blk6 H)
    clear wa1 wa2 wa3 wa4
    have tok0 : True := trivial
    go_region_held3 (fun w' => w'.cell? ⟨g, 0, none⟩ = some (.int .u64 floor) ∧ w'.cell? ⟨g, 1, none⟩ = some (.int .u64 next)) (first | go_keep | exact ⟨x0, x1⟩ | exact KK)
      (first
        | (go_at_call 15; have _t := tok0; refine (put14_lit _ _ (by omega) (by omega) ⟨by omega, by omega⟩ _ f.drew.ok).mono ?_; rintro e wa ⟨q, v1, rfl, O⟩; have q1 := (Fr.refl f.ok).drew.trans q; replace O := O.low (show w.heap.size ≤ _ from f.drew.size); replace H := q1.heap H; replace f := f.trans q1; clear q q1 tok0; obtain ⟨x0, x1, x2, x3, x4, x5⟩ := blk6 H; obtain ⟨a1, b1, hv1⟩ := O.form; rw [le_length] at hv1; subst hv1; have tok1 : True := trivial)
        | (go_at_call 15; have _t := tok1; refine (put14_lit _ _ (by omega) (by omega) ⟨by omega, by omega⟩ _ f.ok).mono ?_; rintro e wb ⟨q, vu, rfl, OU⟩; replace O := O.fr q; replace H := q.heap H; replace f := f.trans q; clear q tok1; have KK := And.intro (blk6 H).1 (blk6 H).2.1; obtain ⟨v2, w2, hap, O2, g2, _⟩ := append_bytes 27 _ _ _ _ _ _ wb O OU (by rw [le_length]; decide) (by rw [le_length, le_length]; decide) f.size; obtain ⟨a2, b2, hv2⟩ := OU.form; rw [le_length] at hv2; subst hv2; obtain ⟨a3, b3, hv3⟩ := O2.form; rw [List.length_append, le_length, le_length] at hv3; subst hv3; have hn := own_ne O H (by decide); replace f := f.row hw g2 (fun k hk => (OwnB.lt O hk).1); replace H := grown_blk' g2 H hn; obtain ⟨x0, x1, x2, x3, x4, x5⟩ := blk6 H)
        | (refine step_append_run rfl _ _ 27 27 rfl (by simp [Act.eval]) (by simp [Act.eval]) hap ?_))
    have O := O2
    clear O2
    have wa1 : IntKind.i64.wrap (cur + 1) = cur + 1 := IntWalk.i64_in _ ⟨by omega, by omega⟩
    have wa2 : IntKind.i64.wrap (last + 1) = last + 1 := IntWalk.i64_in _ ⟨by omega, by omega⟩
    go_wp2_with (first
      | (go_at_call 15; refine (put14_lit _ _ (by omega) (by omega) ⟨by omega, by omega⟩ _ f.ok).mono ?_; rintro e wb ⟨q, vu, rfl, OU⟩; replace O := O.fr q; replace H := q.heap H; replace f := f.trans q; clear q hap; obtain ⟨v2, w2, hap, O2, g2, _⟩ := append_bytes 27 _ _ _ _ _ _ wb O OU (by rw [le_length]; decide) (by simp only [List.length_append, le_length]; decide) f.size; obtain ⟨a2, n2, b2, hv2⟩ := OU.form3; subst hv2; obtain ⟨a3, n3, b3, hv3⟩ := O2.form3; subst hv3; have hn := own_ne O H (by decide); replace f := f.row hw g2 (fun k hk => (OwnB.lt O hk).1); replace H := grown_blk' g2 H hn; clear g2 hn O OU; have O := O2; clear O2; obtain ⟨x0, x1, x2, x3, x4, x5⟩ := blk6 H)
      | (at_builtin; refine wpList_append_run rfl _ _ 27 27 rfl (by simp [Act.eval]) (by simp [Act.eval]) hap ?_))
    obtain ⟨base, hbase⟩ : ∃ base, le floor 8 ++ le next 8 ++ le (cur + 1) 4 ++ le (last + 1) 4 ++ le (bs.length : Int) 4 = base := ⟨_, rfl⟩
    have hbl : base.length = 28 := by rw [← hbase]; simp only [List.length_append, le_length]
    simp only [Int.reduceToNat] at O
    rw [hbase] at O HL
    clear hbase wa1 wa2
    go_loopg [4, 5] bs.length (fun k v4 v5 wc => ∃ (i : Nat) (a : Option Addr) (n b : Nat), v4 = .slice a n b ∧ v5 = .int .i64 (i : Int) ∧ k + i = bs.length ∧ Hid (OwnB wc w.heap.size (.slice a n b) (base ++ blocksL bs i)) ∧ Hid (Fr w wc) ∧ Hid (wc.heap[g]? = some (.cells #[.int .u64 floor, .int .u64 next, .int .i64 cur, .int .i64 last, .slice A1 bs.length c1, .slice A2 os.length c2] 26 (0, 0))))
    case atStart => exact ⟨0, _, _, _, rfl, rfl, by omega, Lib.hid (by rw [show blocksL bs 0 = [] from rfl, List.append_nil]; exact O), Lib.hid f, Lib.hid H⟩
    case round =>
      clear O f H x0 x1 x2 x3 x4 x5 hap
      obtain ⟨i, a0, n0, b0, rfl, rfl, hk, HW, HF, HH⟩ := hrel
      have f := HF.out
      have H := HH.out
      have O := HW.out
      clear HF HH HW
      obtain ⟨x0, x1, x2, x3, x4, x5⟩ := blk6 H
      have hap : True := trivial
      cases gk with
      | zero =>
        have d4 : decide ((i : Int) < (bs.length : Int)) = false := decide_eq_false (by omega)
        obtain rfl : i = bs.length := by omega
        have hbb := blocksL_length bs bs.length (Nat.le_refl _)
        obtain ⟨base2, hbase2⟩ : ∃ base2, base ++ blocksL bs bs.length = base2 := ⟨_, rfl⟩
        have hbl2 : base2.length ≤ 50000 := by rw [← hbase2, List.length_append, hbl, hbb]; omega
        rw [hbase2] at O HL
        clear hbase2 hbb
        have wos : IntKind.u64.wrap (os.length : Int) = (os.length : Int) := u64_in ⟨by omega, by omega⟩
        go_wp2_with (first | (go_at_call 15; refine (put14_lit _ _ (by omega) (by omega) ⟨by omega, by omega⟩ _ f.ok).mono ?_; rintro e wb ⟨q, vu, rfl, OU⟩; simp only [Int.reduceToNat] at OU; replace O := O.fr q; replace H := q.heap H; replace f := f.trans q; clear q; clear hap; obtain ⟨v2, w2, hap, O2, g2, _⟩ := append_bytes 27 _ _ _ _ _ _ _ O OU (by simp only [le_length, placeL_length, Int.reduceToNat]; omega) (by simp only [List.length_append, le_length, placeL_length, Int.reduceToNat, List.length_cons, List.length_nil]; (try rw [HNL.out]); omega) f.size; obtain ⟨a3, n3, b3, hv3⟩ := O2.form3; subst hv3; obtain ⟨a2, n2, b2, hv2⟩ := OU.form3; subst hv2; have hn := own_ne O H (by decide); replace H := grown_blk' g2 H hn; clear hn; replace f := f.row hw g2 (fun k hk => (OwnB.lt O hk).1); clear g2 O OU; have O := O2; clear O2; obtain ⟨x0, x1, x2, x3, x4, x5⟩ := blk6 H) | (at_builtin; refine wpList_append_run rfl _ _ 27 27 rfl (by simp [Act.eval]) (by simp [Act.eval]) hap ?_))
        clear wos hap
        obtain ⟨base3, hbase3⟩ : ∃ base3, base2 ++ le (os.length : Int) 4 = base3 := ⟨_, rfl⟩
        have hbl3 : base3.length ≤ 50004 := by rw [← hbase3, List.length_append, le_length]; omega
        rw [hbase3] at O HL
        clear hbase3 hbl hbl2
        go_loopg [4, 7] os.length (fun k v4 v7 wc => ∃ (i : Nat) (a : Option Addr) (n b : Nat), v4 = .slice a n b ∧ v7 = .int .i64 (i : Int) ∧ k + i = os.length ∧ Hid (OwnB wc w.heap.size (.slice a n b) (base3 ++ objsL os i)) ∧ Hid (Fr w wc) ∧ Hid (wc.heap[g]? = some (.cells #[.int .u64 floor, .int .u64 next, .int .i64 cur, .int .i64 last, .slice A1 bs.length c1, .slice A2 os.length c2] 26 (0, 0))))
        case atStart => exact ⟨0, _, _, _, rfl, rfl, by omega, Lib.hid (by rw [show objsL os 0 = [] from rfl, List.append_nil]; exact O), Lib.hid f, Lib.hid H⟩
        case round =>
          clear O f H x0 x1 x2 x3 x4 x5
          obtain ⟨i, a0, n0, b0, rfl, rfl, hk, HW, HF, HH⟩ := hrel
          have f := HF.out
          have H := HH.out
          have O := HW.out
          clear HF HH HW
          obtain ⟨x0, x1, x2, x3, x4, x5⟩ := blk6 H
          have hap : True := trivial
          cases gk with
          | zero =>
            have d5 : decide ((i : Int) < (os.length : Int)) = false := decide_eq_false (by omega)
            obtain rfl : i = os.length := by omega
            rw [← HL.out] at O
            go_wp2
            exact HPost.out _ _ f O
          | succ k =>
            have hi : i < os.length := by omega
            have d5 : decide ((i : Int) < (os.length : Int)) = true := decide_eq_true (by omega)
            obtain ⟨gO, oO, hA, y0, y1, y2, y3, y4, y5, y6, y7, y8, y9, y10, y11, y12, _, hcl⟩ := (hO.fr f).get hi
            have hmem := List.getElem_mem hi
            have hCw := (hO.2 i os[i] (by simp [hi])).1
            have HOB := HOS.out _ hmem
            have HOF := HOW.out _ hmem
            have hol := HOL.out i (Nat.le_of_lt hi)
            have HS : Hid (base3 ++ objsL os (i + 1) = base3 ++ objsL os i ++ objL os[i]) := Lib.hid (by rw [objsL_succ os i hi, List.append_assoc])
            obtain ⟨ob, hob⟩ : ∃ ob, os[i] = ob := ⟨_, rfl⟩
            rw [hob] at y0 y1 y2 y3 y4 y5 y6 y7 y8 y9 y10 y11 y12 hcl hCw HOB HOF HS
            clear hob hmem
            subst hA
            obtain ⟨bi, hbi⟩ : ∃ bi, base3 ++ objsL os i = bi := ⟨_, rfl⟩
            have hbil : bi.length ≤ 700000000000 := by rw [← hbi, List.length_append]; omega
            rw [hbi] at O HS
            clear hbi hol
            obtain ⟨id, head, nd, pb, pp, cs⟩ := ob
            dsimp only at y0 y1 y2 y3 y4 y5 y6 y7 y8 y9 y10 y11 y12 hcl hCw
            obtain ⟨_, hnd, _⟩ := HOF
            dsimp only at hnd
            unfold objB at HOB
            dsimp only at HOB
            simp only [Bool.and_eq_true, decide_eq_true_eq] at HOB
            obtain ⟨⟨⟨hi1, hi2, hcs⟩, hch⟩, hhd⟩ := HOB
            have HM := Lib.hid (chunks_mem (Int.le_refl _) hch)
            have HN := Lib.hid hnd
            have HH := Lib.hid hhd
            have HC := Lib.hid hCw
            clear hch hhd hCw hnd
            obtain ⟨A, hAA⟩ : ∃ A, (al i).1 = A := ⟨_, rfl⟩
            obtain ⟨c, hcc⟩ : ∃ c, (al i).2 = c := ⟨_, rfl⟩
            rw [hAA] at y12 HC
            rw [hcc] at y12 hcl
            clear hAA hcc
            have hye : 0 ≤ yesI head ∧ yesI head ≤ 1 := by unfold yesI; split <;> omega
            obtain ⟨hy0, hy1⟩ := hye
            obtain ⟨w8, g8, hg8, hw8, f8, hz8, H8⟩ := boxedN f.ok #[.int .i64 id, .bool head, .int .i64 nd.ty, .int .i64 nd.par, .string nd.name, .int .i64 nd.size, .int .i64 nd.mode, .int .u64 nd.stamp, .int .i64 nd.shadow, .string nd.tgt, .int .i64 pb, .int .i64 pp, .slice A cs.length c] 53
            replace O := O.fr f8
            replace H := f8.heap H
            replace f := f.trans f8
            clear f8
            obtain ⟨e0, e1, e2, e3, e4, e5, e6, e7, e8, e9, e10, e11, e12⟩ := blk13 H8
            have wid : IntKind.u64.wrap id = id := u64_in ⟨by omega, by omega⟩
            have wcs : IntKind.u64.wrap (cs.length : Int) = (cs.length : Int) := u64_in ⟨by omega, by omega⟩
            cases head
            · replace HS : Hid (base3 ++ objsL os (i + 1) = bi ++ le id 4 ++ le (yesI false) 1 ++ le (cs.length : Int) 4 ++ chunksL cs cs.length) := Lib.hid (by rw [HS.out]; unfold objL chunksL; simp only [List.take_length, List.append_assoc]; rfl)
              go_wp2_with (first | (go_at_call 15; refine (put14_lit _ _ (by omega) (by omega) ⟨by omega, by omega⟩ _ f.ok).mono ?_; rintro e wb ⟨q, vu, rfl, OU⟩; simp only [Int.reduceToNat] at OU; replace O := O.fr q; replace H := q.heap H; replace H8 := q.heap H8; replace f := f.trans q; clear q; clear hap; obtain ⟨v2, w2, hap, O2, g2, _⟩ := append_bytes 27 _ _ _ _ _ _ _ O OU (by simp only [le_length, placeL_length, Int.reduceToNat]; omega) (by simp only [List.length_append, le_length, placeL_length, Int.reduceToNat, List.length_cons, List.length_nil]; (try rw [HNL.out]); omega) f.size; obtain ⟨a3, n3, b3, hv3⟩ := O2.form3; subst hv3; obtain ⟨a2, n2, b2, hv2⟩ := OU.form3; subst hv2; have hn := own_ne O H (by decide); replace H := grown_blk' g2 H hn; clear hn; have hn := own_ne O H8 (by decide); replace H8 := grown_blk' g2 H8 hn; clear hn; replace f := f.row hw g2 (fun k hk => (OwnB.lt O hk).1); clear g2 O OU; have O := O2; clear O2; obtain ⟨e0, e1, e2, e3, e4, e5, e6, e7, e8, e9, e10, e11, e12⟩ := blk13 H8) | (go_at_call 16; refine (yes14_any _ _ f.ok).mono ?_; rintro e wb ⟨rfl, q⟩; replace O := O.fr q; replace H := q.heap H; replace H8 := q.heap H8; replace f := f.trans q; clear q; obtain ⟨e0, e1, e2, e3, e4, e5, e6, e7, e8, e9, e10, e11, e12⟩ := blk13 H8) | (at_builtin; refine wpList_append_run rfl _ _ 27 27 rfl (by simp [Act.eval]) (by simp [Act.eval]) hap ?_))
              obtain ⟨base4, hbase4⟩ : ∃ base4, bi ++ le id 4 ++ le (yesI false) 1 ++ le (cs.length : Int) 4 = base4 := ⟨_, rfl⟩
              have hbl4 : base4.length ≤ 700000001000 := by rw [← hbase4]; simp only [List.length_append, le_length]; omega
              rw [hbase4] at O HS
              clear hbase4
              obtain ⟨AO, host⟩ : ∃ AO, (some ⟨gO, oO, none⟩ : Option Addr) = AO := ⟨_, rfl⟩
              rw [host] at H
              replace host := Lib.hid host
              go_loopg [4, 11] cs.length (fun k v4 v11 wc => ∃ (j : Nat) (a : Option Addr) (n b : Nat), v4 = .slice a n b ∧ v11 = .int .i64 (j : Int) ∧ k + j = cs.length ∧ Hid (OwnB wc w.heap.size (.slice a n b) (base4 ++ chunksL cs j)) ∧ Hid (Fr w wc) ∧ Hid (wc.heap[g]? = some (.cells #[.int .u64 floor, .int .u64 next, .int .i64 cur, .int .i64 last, .slice A1 bs.length c1, .slice AO os.length c2] 26 (0, 0))) ∧ Hid (wc.heap[g8]? = some (.cells #[.int .i64 id, .bool false, .int .i64 nd.ty, .int .i64 nd.par, .string nd.name, .int .i64 nd.size, .int .i64 nd.mode, .int .u64 nd.stamp, .int .i64 nd.shadow, .string nd.tgt, .int .i64 pb, .int .i64 pp, .slice A cs.length c] 53 (0, 0))))
              case atStart => exact ⟨0, _, _, _, rfl, rfl, by omega, Lib.hid (by rw [show chunksL cs 0 = [] from rfl, List.append_nil]; exact O), Lib.hid f, Lib.hid H, Lib.hid H8⟩
              case round =>
                clear O f H H8 e0 e1 e2 e3 e4 e5 e6 e7 e8 e9 e10 e11 e12 hap
                obtain ⟨j, a0, n0, b0, rfl, rfl, hj, HW, HF, HH, HH8⟩ := hrel
                have f := HF.out
                have H := HH.out
                have H8 := HH8.out
                have O := HW.out
                clear HF HH HW HH8
                have hap : True := trivial
                obtain ⟨e0, e1, e2, e3, e4, e5, e6, e7, e8, e9, e10, e11, e12⟩ := blk13 H8
                cases gk with
                | zero =>
                  have d6 : decide ((j : Int) < (cs.length : Int)) = false := decide_eq_false (by omega)
                  obtain rfl : j = cs.length := by omega
                  go_wp2
                  go_roundg k
                  case measure => omega
                  case rel => exact ⟨i + 1, _, _, _, rfl, by simp, by omega, Lib.hid (by rw [HS.out]; exact O), Lib.hid f, Lib.hid (by rw [host.out]; exact H)⟩
                | succ kk =>
                  have hj2 : j < cs.length := by omega
                  have d6 : decide ((j : Int) < (cs.length : Int)) = true := decide_eq_true (by omega)
                  obtain ⟨gC, oC, hA, s0, s1, s2, s3⟩ := (HC.out.fr f).get hj2
                  obtain ⟨m0, m1, m2, m3, m4, m5, m6, m7⟩ := HM.out cs[j] (List.getElem_mem hj2)
                  have HT := Lib.hid (chunksL_succ cs j hj2)
                  have hcl8 := chunksL_length cs j (Nat.le_of_lt hj2)
                  obtain ⟨ch, hch⟩ : ∃ ch, cs[j] = ch := ⟨_, rfl⟩
                  rw [hch] at s0 s1 s2 s3 m0 m1 m2 m3 m4 m5 m6 m7 HT
                  clear hch
                  obtain ⟨cc, cb, cp, cn⟩ := ch
                  dsimp only at s0 s1 s2 s3 m0 m1 m2 m3 m4 m5 m6 m7
                  subst hA
                  obtain ⟨w9, g9, hg9, hw9, f9, hz9, H9⟩ := boxedN f.ok #[.int .i64 cc, .int .i64 cb, .int .i64 cp, .int .i64 cn] 59
                  replace O := O.fr f9
                  replace H := f9.heap H
                  replace H8 := f9.heap H8
                  replace f := f.trans f9
                  clear f9
                  obtain ⟨z0, z1, z2, z3⟩ := blk4 H9
                  have wcc : IntKind.u64.wrap cc = cc := u64_in ⟨by omega, by omega⟩
                  have wcn : IntKind.u64.wrap cn = cn := u64_in ⟨by omega, by omega⟩
                  go_wp2_with (first | (go_at_call 15; refine (put14_lit _ _ (by omega) (by omega) ⟨by omega, by omega⟩ _ f.ok).mono ?_; rintro e wb ⟨q, vu, rfl, OU⟩; simp only [Int.reduceToNat] at OU; replace O := O.fr q; replace H := q.heap H; replace H8 := q.heap H8; replace H9 := q.heap H9; replace f := f.trans q; clear q; clear hap; obtain ⟨v2, w2, hap, O2, g2, _⟩ := append_bytes 27 _ _ _ _ _ _ _ O OU (by simp only [le_length, placeL_length, Int.reduceToNat]; omega) (by simp only [List.length_append, le_length, placeL_length, Int.reduceToNat, List.length_cons, List.length_nil]; (try rw [HNL.out]); omega) f.size; obtain ⟨a3, n3, b3, hv3⟩ := O2.form3; subst hv3; obtain ⟨a2, n2, b2, hv2⟩ := OU.form3; subst hv2; have hn := own_ne O H (by decide); replace H := grown_blk' g2 H hn; clear hn; have hn := own_ne O H8 (by decide); replace H8 := grown_blk' g2 H8 hn; clear hn; have hn := own_ne O H9 (by decide); replace H9 := grown_blk' g2 H9 hn; clear hn; replace f := f.row hw g2 (fun k hk => (OwnB.lt O hk).1); clear g2 O OU; have O := O2; clear O2; obtain ⟨z0, z1, z2, z3⟩ := blk4 H9) | (go_at_call 18; refine (at14_any _ _ ⟨by omega, by omega⟩ ⟨by omega, by omega⟩ _ f.ok).mono ?_; rintro e wb ⟨q, vu, rfl, OU⟩; replace O := O.fr q; replace H := q.heap H; replace H8 := q.heap H8; replace H9 := q.heap H9; replace f := f.trans q; clear q; clear hap; obtain ⟨v2, w2, hap, O2, g2, _⟩ := append_bytes 27 _ _ _ _ _ _ _ O OU (by simp only [le_length, placeL_length, Int.reduceToNat]; omega) (by simp only [List.length_append, le_length, placeL_length, Int.reduceToNat, List.length_cons, List.length_nil]; (try rw [HNL.out]); omega) f.size; obtain ⟨a3, n3, b3, hv3⟩ := O2.form3; subst hv3; obtain ⟨a2, n2, b2, hv2⟩ := OU.form3; subst hv2; have hn := own_ne O H (by decide); replace H := grown_blk' g2 H hn; clear hn; have hn := own_ne O H8 (by decide); replace H8 := grown_blk' g2 H8 hn; clear hn; have hn := own_ne O H9 (by decide); replace H9 := grown_blk' g2 H9 hn; clear hn; replace f := f.row hw g2 (fun k hk => (OwnB.lt O hk).1); clear g2 O OU; have O := O2; clear O2; obtain ⟨z0, z1, z2, z3⟩ := blk4 H9) | (at_builtin; refine wpList_append_run rfl _ _ 27 27 rfl (by simp [Act.eval]) (by simp [Act.eval]) hap ?_))
                  go_roundg kk
                  case measure => omega
                  case rel => exact ⟨j + 1, _, _, _, rfl, by simp, by omega, Lib.hid (by rw [HT.out]; unfold chunkL; simp only [← List.append_assoc] at O ⊢; exact O), Lib.hid f, Lib.hid H, Lib.hid H8⟩
            · have HH2 := HH.out
              rw [if_pos rfl] at HH2
              simp only [Bool.and_eq_true, decide_eq_true_eq] at HH2
              obtain ⟨⟨hck, _hsh⟩, hpl⟩ := HH2
              clear _hsh
              unfold placeB at hpl
              obtain ⟨p0, p1, p2, p3⟩ := of_decide_eq_true hpl
              clear hpl
              obtain ⟨_, _, _, _, kn, _, _, _, _, _, _, kt⟩ := check_facts hck
              have HP : Hid (packN nd = nodeL nd) := Lib.hid (if_pos hck)
              obtain ⟨NL, HNL⟩ : ∃ NL, Hid ((nodeL nd).length = NL) := ⟨_, Lib.hid rfl⟩
              have hN1 : 25 ≤ NL ∧ NL ≤ 215 := by have h1 := nodeL_length nd; have h2 := HNL.out; omega
              obtain ⟨hN1, hN2⟩ := hN1
              have wNL : IntKind.u8.wrap (NL : Int) = (NL : Int) := IntWalk.u8_in _ ⟨by omega, by omega⟩
              replace HS : Hid (base3 ++ objsL os (i + 1) = bi ++ le id 4 ++ le (yesI true) 1 ++ [(NL : Int)] ++ nodeL nd ++ placeL pb pp ++ le (cs.length : Int) 4 ++ chunksL cs cs.length) := Lib.hid (by rw [HS.out, ← le_one (x := (NL : Int)) (by omega) (by omega), ← HNL.out]; unfold objL chunksL; simp only [List.take_length, List.append_assoc, if_true])
              go_wp2_with (first
                | (go_at_call 15; refine (put14_lit _ _ (by omega) (by omega) ⟨by omega, by omega⟩ _ f.ok).mono ?_; rintro e wb ⟨q, vu, rfl, OU⟩; simp only [Int.reduceToNat] at OU; replace O := O.fr q; replace H := q.heap H; replace H8 := q.heap H8; replace f := f.trans q; clear q; clear hap; obtain ⟨v2, w2, hap, O2, g2, _⟩ := append_bytes 27 _ _ _ _ _ _ _ O OU (by simp only [le_length, placeL_length, Int.reduceToNat]; omega) (by simp only [List.length_append, le_length, placeL_length, Int.reduceToNat, List.length_cons, List.length_nil]; (try rw [HNL.out]); omega) f.size; obtain ⟨a3, n3, b3, hv3⟩ := O2.form3; subst hv3; obtain ⟨a2, n2, b2, hv2⟩ := OU.form3; subst hv2; have hn := own_ne O H (by decide); replace H := grown_blk' g2 H hn; clear hn; have hn := own_ne O H8 (by decide); replace H8 := grown_blk' g2 H8 hn; clear hn; replace f := f.row hw g2 (fun k hk => (OwnB.lt O hk).1); clear g2 O OU; have O := O2; clear O2; obtain ⟨e0, e1, e2, e3, e4, e5, e6, e7, e8, e9, e10, e11, e12⟩ := blk13 H8)
                | (go_at_call 16; refine (yes14_any _ _ f.ok).mono ?_; rintro e wb ⟨rfl, q⟩; replace O := O.fr q; replace H := q.heap H; replace H8 := q.heap H8; replace f := f.trans q; clear q; obtain ⟨e0, e1, e2, e3, e4, e5, e6, e7, e8, e9, e10, e11, e12⟩ := blk13 H8)
                | (go_at_call 18; refine (at14_any _ _ ⟨by omega, by omega⟩ ⟨by omega, by omega⟩ _ f.ok).mono ?_; rintro e wb ⟨q, vu, rfl, OU⟩; replace O := O.fr q; replace H := q.heap H; replace H8 := q.heap H8; replace f := f.trans q; clear q; clear hap; obtain ⟨v2, w2, hap, O2, g2, _⟩ := append_bytes 27 _ _ _ _ _ _ _ O OU (by simp only [le_length, placeL_length, Int.reduceToNat]; omega) (by simp only [List.length_append, le_length, placeL_length, Int.reduceToNat, List.length_cons, List.length_nil]; (try rw [HNL.out]); omega) f.size; obtain ⟨a3, n3, b3, hv3⟩ := O2.form3; subst hv3; obtain ⟨a2, n2, b2, hv2⟩ := OU.form3; subst hv2; have hn := own_ne O H (by decide); replace H := grown_blk' g2 H hn; clear hn; have hn := own_ne O H8 (by decide); replace H8 := grown_blk' g2 H8 hn; clear hn; replace f := f.row hw g2 (fun k hk => (OwnB.lt O hk).1); clear g2 O OU; have O := O2; clear O2; obtain ⟨e0, e1, e2, e3, e4, e5, e6, e7, e8, e9, e10, e11, e12⟩ := blk13 H8)
                | (at_builtin; refine wpList_append_run rfl _ _ 27 27 rfl (by simp [Act.eval]) (by simp [Act.eval]) hap ?_)
                | (at_builtin; refine wpList_append_run rfl _ _ 27 27 rfl (by simp [Act.eval]) (by simp [Act.eval]) hap2 ?_)
                | (go_at_call 17; refine (pack08_any nd HN.out _ f.ok).mono ?_; rintro e wb ⟨q, vn, rfl, ON⟩; rw [HP.out] at ON; obtain ⟨gn, cn, hvn, hbn, _⟩ := ON.blk (by rw [HNL.out]; omega); rw [HNL.out] at hvn; subst hvn; have hol := fun k hk => (OwnB.lt O (k := k) hk).2; replace O := O.fr q; replace H := q.heap H; replace H8 := q.heap H8; replace f := f.trans q; clear q; obtain ⟨w9, g9, hg9, hw9, f9, OU⟩ := lit_byte f.ok wb.heap.size (NL : Int) (Nat.le_refl _); replace O := O.fr f9; replace ON := ON.fr f9; replace H := f9.heap H; replace H8 := f9.heap H8; replace f := f.trans f9; clear f9; clear hap; obtain ⟨v2, w2, hap, O2, g2, _⟩ := append_bytes 27 _ _ _ _ _ _ _ O OU (by simp) (by simp only [List.length_append, le_length, placeL_length, Int.reduceToNat, List.length_cons, List.length_nil]; (try rw [HNL.out]); omega) f.size; obtain ⟨a3, n3, b3, hv3⟩ := O2.form3; subst hv3; have hn := own_ne O H (by decide); replace H := grown_blk' g2 H hn; clear hn; have hn := own_ne O H8 (by decide); replace H8 := grown_blk' g2 H8 hn; clear hn; replace ON := World.ownsRow.kept ON g2 (.inr (fun e => absurd (hol gn e.symm) (by omega))); replace f := f.row hw g2 (fun k hk => (OwnB.lt O hk).1); clear g2 O OU; have O := O2; clear O2; clear hol; obtain ⟨v4, w4, hap2, O2, g2, _⟩ := append_bytes 27 _ _ _ _ _ _ _ O ON (by rw [HNL.out]; omega) (by rw [HNL.out]; simp only [List.length_append, le_length, placeL_length, Int.reduceToNat, List.length_cons, List.length_nil]; (try rw [HNL.out]); omega) f.size; obtain ⟨a4, n4, b4, hv4⟩ := O2.form3; subst hv4; have hn := own_ne O H (by decide); replace H := grown_blk' g2 H hn; clear hn; have hn := own_ne O H8 (by decide); replace H8 := grown_blk' g2 H8 hn; clear hn; replace f := f.row hw g2 (fun k hk => (OwnB.lt O hk).1); clear g2 O ON; have O := O2; clear O2; obtain ⟨e0, e1, e2, e3, e4, e5, e6, e7, e8, e9, e10, e11, e12⟩ := blk13 H8))
              obtain ⟨base4, hbase4⟩ : ∃ base4, bi ++ le id 4 ++ le (yesI true) 1 ++ [(NL : Int)] ++ nodeL nd ++ placeL pb pp ++ le (cs.length : Int) 4 = base4 := ⟨_, rfl⟩
              have hbl4 : base4.length ≤ 700000001000 := by rw [← hbase4]; simp only [List.length_append, le_length, placeL_length, HNL.out, List.length_cons, List.length_nil]; omega
              rw [hbase4] at O HS
              clear hbase4
              obtain ⟨AO, host⟩ : ∃ AO, (some ⟨gO, oO, none⟩ : Option Addr) = AO := ⟨_, rfl⟩
              rw [host] at H
              replace host := Lib.hid host
              go_loopg [4, 11] cs.length (fun k v4 v11 wc => ∃ (j : Nat) (a : Option Addr) (n b : Nat), v4 = .slice a n b ∧ v11 = .int .i64 (j : Int) ∧ k + j = cs.length ∧ Hid (OwnB wc w.heap.size (.slice a n b) (base4 ++ chunksL cs j)) ∧ Hid (Fr w wc) ∧ Hid (wc.heap[g]? = some (.cells #[.int .u64 floor, .int .u64 next, .int .i64 cur, .int .i64 last, .slice A1 bs.length c1, .slice AO os.length c2] 26 (0, 0))) ∧ Hid (wc.heap[g8]? = some (.cells #[.int .i64 id, .bool true, .int .i64 nd.ty, .int .i64 nd.par, .string nd.name, .int .i64 nd.size, .int .i64 nd.mode, .int .u64 nd.stamp, .int .i64 nd.shadow, .string nd.tgt, .int .i64 pb, .int .i64 pp, .slice A cs.length c] 53 (0, 0))))
              case atStart => exact ⟨0, _, _, _, rfl, rfl, by omega, Lib.hid (by rw [show chunksL cs 0 = [] from rfl, List.append_nil]; exact O), Lib.hid f, Lib.hid H, Lib.hid H8⟩
              case round =>
                clear O f H H8 e0 e1 e2 e3 e4 e5 e6 e7 e8 e9 e10 e11 e12 hap
                obtain ⟨j, a0, n0, b0, rfl, rfl, hj, HW, HF, HH, HH8⟩ := hrel
                have f := HF.out
                have H := HH.out
                have H8 := HH8.out
                have O := HW.out
                clear HF HH HW HH8
                have hap : True := trivial
                obtain ⟨e0, e1, e2, e3, e4, e5, e6, e7, e8, e9, e10, e11, e12⟩ := blk13 H8
                cases gk with
                | zero =>
                  have d6 : decide ((j : Int) < (cs.length : Int)) = false := decide_eq_false (by omega)
                  obtain rfl : j = cs.length := by omega
                  go_wp2
                  go_roundg k
                  case measure => omega
                  case rel => exact ⟨i + 1, _, _, _, rfl, by simp, by omega, Lib.hid (by rw [HS.out]; exact O), Lib.hid f, Lib.hid (by rw [host.out]; exact H)⟩
                | succ kk =>
                  have hj2 : j < cs.length := by omega
                  have d6 : decide ((j : Int) < (cs.length : Int)) = true := decide_eq_true (by omega)
                  obtain ⟨gC, oC, hA, s0, s1, s2, s3⟩ := (HC.out.fr f).get hj2
                  obtain ⟨m0, m1, m2, m3, m4, m5, m6, m7⟩ := HM.out cs[j] (List.getElem_mem hj2)
                  have HT := Lib.hid (chunksL_succ cs j hj2)
                  have hcl8 := chunksL_length cs j (Nat.le_of_lt hj2)
                  obtain ⟨ch, hch⟩ : ∃ ch, cs[j] = ch := ⟨_, rfl⟩
                  rw [hch] at s0 s1 s2 s3 m0 m1 m2 m3 m4 m5 m6 m7 HT
                  clear hch
                  obtain ⟨cc, cb, cp, cn⟩ := ch
                  dsimp only at s0 s1 s2 s3 m0 m1 m2 m3 m4 m5 m6 m7
                  subst hA
                  obtain ⟨w9, g9, hg9, hw9, f9, hz9, H9⟩ := boxedN f.ok #[.int .i64 cc, .int .i64 cb, .int .i64 cp, .int .i64 cn] 59
                  replace O := O.fr f9
                  replace H := f9.heap H
                  replace H8 := f9.heap H8
                  replace f := f.trans f9
                  clear f9
                  obtain ⟨z0, z1, z2, z3⟩ := blk4 H9
                  have wcc : IntKind.u64.wrap cc = cc := u64_in ⟨by omega, by omega⟩
                  have wcn : IntKind.u64.wrap cn = cn := u64_in ⟨by omega, by omega⟩
                  go_wp2_with (first | (go_at_call 15; refine (put14_lit _ _ (by omega) (by omega) ⟨by omega, by omega⟩ _ f.ok).mono ?_; rintro e wb ⟨q, vu, rfl, OU⟩; simp only [Int.reduceToNat] at OU; replace O := O.fr q; replace H := q.heap H; replace H8 := q.heap H8; replace H9 := q.heap H9; replace f := f.trans q; clear q; clear hap; obtain ⟨v2, w2, hap, O2, g2, _⟩ := append_bytes 27 _ _ _ _ _ _ _ O OU (by simp only [le_length, placeL_length, Int.reduceToNat]; omega) (by simp only [List.length_append, le_length, placeL_length, Int.reduceToNat, List.length_cons, List.length_nil]; (try rw [HNL.out]); omega) f.size; obtain ⟨a3, n3, b3, hv3⟩ := O2.form3; subst hv3; obtain ⟨a2, n2, b2, hv2⟩ := OU.form3; subst hv2; have hn := own_ne O H (by decide); replace H := grown_blk' g2 H hn; clear hn; have hn := own_ne O H8 (by decide); replace H8 := grown_blk' g2 H8 hn; clear hn; have hn := own_ne O H9 (by decide); replace H9 := grown_blk' g2 H9 hn; clear hn; replace f := f.row hw g2 (fun k hk => (OwnB.lt O hk).1); clear g2 O OU; have O := O2; clear O2; obtain ⟨z0, z1, z2, z3⟩ := blk4 H9) | (go_at_call 18; refine (at14_any _ _ ⟨by omega, by omega⟩ ⟨by omega, by omega⟩ _ f.ok).mono ?_; rintro e wb ⟨q, vu, rfl, OU⟩; replace O := O.fr q; replace H := q.heap H; replace H8 := q.heap H8; replace H9 := q.heap H9; replace f := f.trans q; clear q; clear hap; obtain ⟨v2, w2, hap, O2, g2, _⟩ := append_bytes 27 _ _ _ _ _ _ _ O OU (by simp only [le_length, placeL_length, Int.reduceToNat]; omega) (by simp only [List.length_append, le_length, placeL_length, Int.reduceToNat, List.length_cons, List.length_nil]; (try rw [HNL.out]); omega) f.size; obtain ⟨a3, n3, b3, hv3⟩ := O2.form3; subst hv3; obtain ⟨a2, n2, b2, hv2⟩ := OU.form3; subst hv2; have hn := own_ne O H (by decide); replace H := grown_blk' g2 H hn; clear hn; have hn := own_ne O H8 (by decide); replace H8 := grown_blk' g2 H8 hn; clear hn; have hn := own_ne O H9 (by decide); replace H9 := grown_blk' g2 H9 hn; clear hn; replace f := f.row hw g2 (fun k hk => (OwnB.lt O hk).1); clear g2 O OU; have O := O2; clear O2; obtain ⟨z0, z1, z2, z3⟩ := blk4 H9) | (at_builtin; refine wpList_append_run rfl _ _ 27 27 rfl (by simp [Act.eval]) (by simp [Act.eval]) hap ?_))
                  go_roundg kk
                  case measure => omega
                  case rel => exact ⟨j + 1, _, _, _, rfl, by simp, by omega, Lib.hid (by rw [HT.out]; unfold chunkL; simp only [← List.append_assoc] at O ⊢; exact O), Lib.hid f, Lib.hid H, Lib.hid H8⟩
      | succ k =>
        have hi : i < bs.length := by omega
        have d4 : decide ((i : Int) < (bs.length : Int)) = true := decide_eq_true (by omega)
        obtain ⟨gC, oC, hA, y0, y1, y2, y3⟩ := (hB.fr f).get hi
        obtain ⟨m0, m1, m2, m3, m4⟩ := HBS.out _ (List.getElem_mem hi)
        obtain ⟨_, ⟨m5, _⟩, _⟩ := HBW.out _ (List.getElem_mem hi)
        have HS := Lib.hid (blocksL_succ bs i hi)
        have hbb := blocksL_length bs i (Nat.le_of_lt hi)
        obtain ⟨b, hb⟩ : ∃ b, bs[i] = b := ⟨_, rfl⟩
        rw [hb] at y0 y1 y2 y3 m0 m1 m2 m3 m4 m5 HS
        clear hb
        subst hA
        obtain ⟨st, hd, real, live⟩ := b
        dsimp only at y0 y1 y2 y3 m0 m1 m2 m3 m4 m5
        have hye : 0 ≤ yesI real ∧ yesI real ≤ 1 := by unfold yesI; split <;> omega
        obtain ⟨hy0, hy1⟩ := hye
        obtain ⟨w8, g8, hg8, hw8, f8, hz8, H8⟩ := boxedN f.ok #[.int .i64 st, .int .u64 hd, .bool real, .int .i64 live] 45
        obtain ⟨k0, k1, k2, k3⟩ := blk4 H8
        replace O := O.fr f8
        replace H := f8.heap H
        replace f := f.trans f8
        clear f8
        obtain ⟨w9, g9, hg9, hw9, f9, OU⟩ := lit_byte f.ok w8.heap.size st (Nat.le_refl _)
        replace O := O.fr f9
        replace H := f9.heap H
        replace H8 := f9.heap H8
        replace f := f.trans f9
        clear f9
        clear hap; obtain ⟨v2, w2, hap, O2, g2, _⟩ := append_bytes 27 _ _ _ _ _ _ _ O OU (by simp) (by simp only [List.length_append, le_length, placeL_length, Int.reduceToNat, List.length_cons, List.length_nil]; (try rw [HNL.out]); omega) f.size; obtain ⟨a3, n3, b3, hv3⟩ := O2.form3; subst hv3
        have hn := own_ne O H (by decide); replace H := grown_blk' g2 H hn; clear hn; have hn := own_ne O H8 (by decide); replace H8 := grown_blk' g2 H8 hn; clear hn
        replace f := f.row hw g2 (fun k hk => (OwnB.lt O hk).1); clear g2 O OU; have O := O2; clear O2
        obtain ⟨e0, e1, e2, e3⟩ := blk4 H8
        have wst : IntKind.u8.wrap st = st := IntWalk.u8_in _ ⟨by omega, by omega⟩
        have wcn : IntKind.u64.wrap live = live := u64_in ⟨by omega, by omega⟩
        go_wp2_with (first | (go_at_call 15; refine (put14_lit _ _ (by omega) (by omega) ⟨by omega, by omega⟩ _ f.ok).mono ?_; rintro e wb ⟨q, vu, rfl, OU⟩; simp only [Int.reduceToNat] at OU; replace O := O.fr q; replace H := q.heap H; replace H8 := q.heap H8; replace f := f.trans q; clear q; clear hap; obtain ⟨v2, w2, hap, O2, g2, _⟩ := append_bytes 27 _ _ _ _ _ _ _ O OU (by simp only [le_length, placeL_length, Int.reduceToNat]; omega) (by simp only [List.length_append, le_length, placeL_length, Int.reduceToNat, List.length_cons, List.length_nil]; (try rw [HNL.out]); omega) f.size; obtain ⟨a3, n3, b3, hv3⟩ := O2.form3; subst hv3; obtain ⟨a2, n2, b2, hv2⟩ := OU.form3; subst hv2; have hn := own_ne O H (by decide); replace H := grown_blk' g2 H hn; clear hn; have hn := own_ne O H8 (by decide); replace H8 := grown_blk' g2 H8 hn; clear hn; replace f := f.row hw g2 (fun k hk => (OwnB.lt O hk).1); clear g2 O OU; have O := O2; clear O2; obtain ⟨e0, e1, e2, e3⟩ := blk4 H8) | (go_at_call 16; refine (yes14_any _ _ f.ok).mono ?_; rintro e wb ⟨rfl, q⟩; replace O := O.fr q; replace H := q.heap H; replace H8 := q.heap H8; replace f := f.trans q; clear q; obtain ⟨e0, e1, e2, e3⟩ := blk4 H8) | (at_builtin; refine wpList_append_run rfl _ _ 27 27 rfl (by simp [Act.eval]) (by simp [Act.eval]) hap ?_))
        go_roundg k
        case measure => omega
        case rel => exact ⟨i + 1, _, _, _, rfl, by simp, by omega, Lib.hid (by rw [HS.out]; unfold blockL; rw [le_one m0 (by omega)]; simp only [← List.append_assoc] at O ⊢; exact O), Lib.hid f, Lib.hid H⟩
theorem rPack_any (s : St) (A1 : Option Addr) (c1 : Nat) (A2 : Option Addr) (c2 : Nat) (al : Al) (w : World) (hw : Ok w) (hB : BRow w A1 s.bs) (hO : ORow w A2 al s.os) (hwf : s.wf) (hnm : ∀ o ∈ s.os, o.nd.name.size ≤ 1073741824) :
    Calls Tryd.prog 5 #[.agg #[.int .u64 s.floor, .int .u64 s.next, .int .i64 s.cur, .int .i64 s.last, .slice A1 s.bs.length c1, .slice A2 s.os.length c2]] w fun e w' => Fr w w' ∧ ∃ v, e = .returned (.tuple #[v, .int .i64 (resE s)]) ∧ OwnB w' w.heap.size v (resL s) :=
  rPack_go _ s A1 c1 A2 c2 al w hw hB hO hwf hnm (Lib.hid fun w' v h1 h2 => ⟨h1, v, rfl, h2⟩)
end Go.Proofs.YtefkklgelmbaiaaDoor
