/- parcel.follows by its contract. -/
import Derived.Test.YtlnaeppbhjmocaaDoorT10
import Derived.Sort.CutIn
import Derived.ArgAppend
import Derived.Laws.Cover1
set_option linter.unusedSectionVars false
set_option linter.unnecessarySimpa false
set_option linter.unusedSimpArgs false
set_option linter.unusedVariables false
set_option linter.unusedSimpArgs false
set_option linter.unusedVariables false
namespace Go.Proofs.YtlnaeppbhjmocaaDoor
open Go.RowKit Go.Proofs Go.Shelf
attribute [local go_sem] Oper.semAt_some

set_option maxRecDepth 100000 in
set_option maxHeartbeats 3200000 in
theorem piece_any (B : Nat) (A : Option Addr) (c : Nat) (xs : List Int) (l : Lf) (da : Option Addr) (dd : Nat) (ns : List ByteArray) (NA : Option Addr) (nc : Nat) (w : World) (hw : Ok w) (hO : OwnB w B (.slice A xs.length c) xs) (hB : B ≤ w.heap.size) (hB0 : 0 < B)
    (hD : BytesAt w da l.data) (hdd : l.data.length ≤ dd) (hdB : ∀ a, datA l.data da = some a → a.block < B) (hdn : da = none → dd = 0) (hN : SRowO w NA ns) (hne : ns ≠ []) (h64 : ns.length ≤ 64) (hnc : ns.length ≤ nc) (hok : okL l = true) (hst : 0 ≤ l.stamp ∧ l.stamp ≤ 18446744073709551615)
    (hlast : (ns.getLastD ⟨#[]⟩).size ≤ 63) (hx : xs.length ≤ 1073741824) :
    Calls Tryd.prog 49 #[.slice A xs.length c, .agg #[.string l.path, .int .i64 l.ty, .int .i64 l.mode, .int .u64 l.stamp, .slice da l.data.length dd, .string l.tgt], .slice NA ns.length nc] w fun e w' => ∃ a d, e = .returned (.slice a (xs ++ pieceB l ns).length d) ∧ OwnB w' B (.slice a (xs ++ pieceB l ns).length d) (xs ++ pieceB l ns) ∧ w.grownBy w' (Value.slice A xs.length c).ownBlock ∧ Ownish w (Value.slice A xs.length c).ownBlock (Value.slice a (xs ++ pieceB l ns).length d).ownBlock := by
  obtain ⟨m, hm⟩ : ∃ m, ns.length = m := ⟨_, rfl⟩
  obtain ⟨k, hk⟩ : ∃ k, m = k + 1 := ⟨m - 1, by have := List.length_pos_iff.mpr hne; omega⟩
  obtain ⟨nm, hnm⟩ : ∃ nm, ns.getLastD ⟨#[]⟩ = nm := ⟨_, rfl⟩
  rw [hnm] at hlast
  obtain ⟨ng, no, hNA, hng, hcells⟩ := hN hne
  have hcell := hcells k (by omega)
  have hnk : ns[k]'(by omega) = nm := by
    rw [← hnm, List.getLastD_eq_getLast?, List.getLast?_eq_getElem?, show ns.length - 1 = k by omega, List.getElem?_eq_getElem (by omega)]
    rfl
  rw [hnk] at hcell
  subst hNA
  rw [hm] at hnc ⊢
  obtain ⟨R, hR⟩ : ∃ R, pieceB l ns = R := ⟨_, rfl⟩
  rw [hR]
  have HR := Lib.hid hR
  obtain ⟨Z, hZ⟩ : ∃ Z, xs ++ R = Z := ⟨_, rfl⟩
  rw [hZ]
  have HZ := Lib.hid hZ
  clear hZ
  obtain ⟨t1, t3, m0, m1, dl, dnil, gnil, gok⟩ := okL_ty hok
  have HT := Lib.hid (And.intro dnil (And.intro gnil gok))
  clear dnil gnil gok
  have hro : Fence.wide.round = none := rfl
  obtain ⟨w1, g1, hg1, hw1, f1, hz1, H1⟩ := boxedN hw #[.slice A xs.length c] 22
  obtain ⟨w2, g2, hg2, hw2, f2, hz2, H2⟩ := boxedN f1.ok #[.string l.path, .int .i64 l.ty, .int .i64 l.mode, .int .u64 l.stamp, .slice da l.data.length dd, .string l.tgt] 45
  have f12 := f1.trans f2
  have P2 : PcS w w2 B g1 g2 (Value.slice A xs.length c).ownBlock #[.string l.path, .int .i64 l.ty, .int .i64 l.mode, .int .u64 l.stamp, .slice da l.data.length dd, .string l.tgt] (.slice A xs.length c) xs :=
    ⟨Boxed.kept H1 (fr_none f2) (by simp), OwnB.fr hO f12, grown_none (fr_none f12), .inl rfl, H2, by omega, by omega, by omega⟩
  have hcell2 := f12.cell hcell
  obtain ⟨g3, hg3⟩ : ∃ g, w2.heap.size = g := ⟨_, rfl⟩
  obtain ⟨w3, v4, w4, hw3, hap, O4, q4, i4⟩ := append_lit 22 B A c xs [(k : Int), l.ty] w2 P2.own (by simp; omega) (by have := f12.size; omega)
  obtain ⟨y4, hy4⟩ : ∃ y, xs ++ [(k : Int), l.ty] = y := ⟨_, rfl⟩
  have hl4 : y4.length = xs.length + 2 := by rw [← hy4]; simp
  rw [hy4] at O4
  have HY4 := Lib.hid hy4
  have HL4 := Lib.hid hl4
  clear hy4 hl4
  rw [hg3] at hap
  simp only [List.map_cons, List.map_nil, List.length_cons, List.length_nil, Nat.zero_add, Nat.reduceAdd] at hw3 hap
  obtain ⟨w5, hw5, P5⟩ := P2.step q4 O4 i4
  obtain ⟨a4, d4, rfl⟩ := O4.form
  have e1 : IntKind.i64.wrap ((m : Int) - 1) = (k : Int) := by rw [IntWalk.i64_in _ ⟨by omega, by omega⟩]; omega
  have e2 : IntKind.u8.wrap (k : Int) = (k : Int) := by rw [IntKind.wrap_u8]; omega
  have e3 : IntKind.u8.wrap l.ty = l.ty := by rw [IntKind.wrap_u8]; omega
  have s1 : (0 : Int) ≤ (k : Int) := by omega
  have s2 : (k : Int) < (m : Int) := by omega
  have c0 : w2.cell? ⟨g1, 0, none⟩ = some (.slice A xs.length c) := P2.box.cell
  obtain ⟨b0, b1, b2, b3, b4, b5⟩ := blk6 P2.leaf
  have z0 := Boxed.frozen (Boxed.kept P2.box q4 (own_ne3 P2.own P2.box (by decide)))
  have z1 := Boxed.cell (Boxed.kept P2.box q4 (own_ne3 P2.own P2.box (by decide)))
  refine (callsIn_wide (n := 9)).1 ?_
  refine callsIn_of_wp_marks Tryd.func49 rfl trivial ?_ hro
  simp only [Tryd.ntmps49, List.size_toArray, List.length_cons, List.length_nil, Nat.reduceAdd, Nat.reduceSub, Array.replicate_succ, Array.replicate_zero, List.push_toArray, List.append_toArray, List.nil_append, List.cons_append]
  refine wpIn_wide.2 ?_
  go_upto_region 3 with (first
    | (at_builtin; refine wpList_append_run rfl _ _ 22 22 rfl (by simp [Act.eval]) (by simp [Act.eval]) hap ?_))
  clear hap hw3 hw5 q4 i4 O4 c0 b0 b1 b2 b3 b4 b5 z0 z1 e1 e2 e3 s1 s2 P2 hw1 hw2 H1 H2 hcell hcell2 hcells
  have P5d := P5.more (show w5.grownBy w5.drew none from ⟨rfl, rfl, rfl, Nat.le_refl _, fun _ _ _ => rfl⟩) (fun r e => by cases e)
  have HX := Lib.hid hx
  have HFW := Lib.hid f12
  clear hx f12 f1 f2
  have okg : ∀ W, w.grownBy W (Value.slice A xs.length c).ownBlock → Ok W := fun W g => ok_keep hw (g.block 0 (by omega) (fun e => by
    have := (World.ownsRow.lt hO 0 e.symm).1
    omega))
  have HOK := Lib.hid okg
  clear okg
  have e4 : IntKind.u64.wrap l.mode = l.mode := u64_in ⟨by omega, by omega⟩
  obtain ⟨b0, b1, b2, b3, b4, b5⟩ := blk6 P5d.leaf
  have c0 := P5d.box.cell
  refine Reg.wp_region_late (fun w' => w'.cell? ⟨g1, 0, none⟩ = some (.slice a4 y4.length d4) ∧ w'.cell? ⟨g2, 2, none⟩ = some (.int .i64 l.mode) ∧ w'.cell? ⟨g2, 3, none⟩ = some (.int .u64 l.stamp)) 8 [0, 1, 2, 3, 5, 6] [4, 7, 8] (by kernel_rfl) (by kernel_rfl) ⟨c0, b2, b3⟩ ?_
  iterate 6
    refine Reg.wpLateT_step (v := ?_) rfl ?_ (fun w' hS => ?_) ?_
    rotate_left
    · simp [Region.wanted]
    · obtain ⟨s1, s2, s3⟩ := hS
      go_simp
      try (first | rfl | exact ⟨rfl, rfl⟩)
  refine Reg.wpMainT_enter (fn := 39) (args := #[.slice a4 y4.length d4, .int .u64 l.mode, .int .i64 2]) rfl (by simp [Region.wanted]) ?_ (put_any B a4 d4 y4 l.mode 2 m0 (by omega) (by omega) w5.drew (HOK.out _ P5d.grown) P5d.own (by have := P5d.size; omega) (by have := HX.out; have := HL4.out; omega)) ?_
  · go_simp
    try (first | rfl | exact ⟨rfl, rfl⟩)
  rintro e w6 ⟨a6, d6, rfl, O6, q6, i6⟩
  obtain ⟨k1, k2, k3⟩ := P5d.keep q6
  refine ⟨_, rfl, .inr ⟨k1.cell, (blk6 k2).2.2.1, (blk6 k2).2.2.2.1⟩, ?_⟩
  obtain ⟨y6, hy6⟩ : ∃ y, y4 ++ le l.mode 2 = y := ⟨_, rfl⟩
  have hl6 : y6.length = y4.length + 2 := by rw [← hy6, List.length_append, le_length]
  rw [hy6] at O6 i6 ⊢
  have HL6 := Lib.hid hl6
  clear hl6
  refine Reg.wpMainT_enter (fn := 39) (args := #[.slice a6 y6.length d6, .int .u64 l.stamp, .int .i64 8]) rfl (by simp [Region.wanted]) ?_ (put_any B a6 d6 y6 l.stamp 8 hst.1 hst.2 (by omega) w6 (HOK.out _ k3) O6 (by have := k3.size; omega) (by have := HX.out; have := HL4.out; have := HL6.out; omega)) ?_
  · go_simp
    try (first | rfl | exact ⟨rfl, rfl⟩)
  rintro e w7 ⟨a7, d7, rfl, O7, q7, i7⟩
  obtain ⟨y7, hy7⟩ : ∃ y, y6 ++ le l.stamp 8 = y := ⟨_, rfl⟩
  have hl7 : y7.length = y6.length + 8 := by rw [← hy7, List.length_append, le_length]
  rw [hy7] at O7 i7 ⊢
  have HL7 : Hid (y7.length = xs.length + 12) := Lib.hid (by have := HL4.out; have := HL6.out; omega)
  clear hl7
  have q67 := grown_ish q6 q7 i6
  have i67 := ish_trans i6 q6.size i7
  obtain ⟨k1, k2, k3⟩ := P5d.keep q67
  refine ⟨_, rfl, .inr ⟨k1.cell, (blk6 k2).2.2.1, (blk6 k2).2.2.2.1⟩, ?_⟩
  obtain ⟨w8, hw8, P8⟩ := P5d.step q67 O7 i67
  have z0 := k1.frozen
  have z1 := k1.cell
  refine Reg.wpMainT_skip (w' := w8) rfl (by simp [Region.wanted]) ?_ (.inl rfl) ?_
  · go_simp
    try (first | rfl | exact ⟨rfl, rfl⟩)
  refine Reg.wpMainT_nil ?_
  simp only [List.getElem_toArray, List.getElem_cons_succ, List.getElem_cons_zero, Act.put, List.setIfInBounds_toArray, List.set_cons_zero, List.set_cons_succ]
  have HY7 := Lib.hid (And.intro hy6 hy7)
  clear hy6 hy7 HL6 q67 i67 k1 k2 k3 q6 q7 i6 i7 O6 O7 z0 z1 hw8 b0 b1 b2 b3 b4 b5 c0 P5 P5d HL4 e4
  obtain ⟨g9, hg9⟩ : ∃ g, w8.heap.size = g := ⟨_, rfl⟩
  obtain ⟨w9, v10, w10, hw9, hap, O10, q10, i10⟩ := append_lit 22 B a7 d7 y7 [(nm.size : Int)] w8 P8.own (by have := HL7.out; have := HX.out; simp; omega) (by have := P8.size; omega)
  obtain ⟨y10, hy10⟩ : ∃ y, y7 ++ [(nm.size : Int)] = y := ⟨_, rfl⟩
  have HL10 : Hid (y10.length = xs.length + 13) := Lib.hid (by rw [← hy10, List.length_append]; have := HL7.out; simp; omega)
  rw [hy10] at O10
  have HY10 := Lib.hid hy10
  clear hy10
  obtain ⟨a10, d10, rfl⟩ := O10.form
  obtain ⟨v11, w11, hap2, O11, q11, i11⟩ := append_str 22 B a10 d10 y10 nm w10 O10 (by have := HL10.out; have := HX.out; omega) (by have := P8.size; have := q10.size; omega)
  obtain ⟨y11, hy11⟩ : ∃ y, y10 ++ bytesI nm = y := ⟨_, rfl⟩
  have HL11 : Hid (y11.length ≤ xs.length + 76) := Lib.hid (by rw [← hy11, List.length_append, bytesI_length]; have := HL10.out; omega)
  rw [hy11] at O11
  have HY11 := Lib.hid hy11
  clear hy11
  obtain ⟨a11, d11, rfl⟩ := O11.form
  have q1011 := grown_ish q10 q11 i10
  have i1011 := ish_trans i10 q10.size i11
  obtain ⟨w12, hw12, P12⟩ := P8.step q1011 O11 i1011
  rw [hg9] at hap
  simp only [List.map_cons, List.map_nil, List.length_cons, List.length_nil, Nat.zero_add, Nat.reduceAdd] at hw9 hap
  have e5 : IntKind.u8.wrap (nm.size : Int) = (nm.size : Int) := by rw [IntKind.wrap_u8]; omega
  obtain ⟨k1, k2, k3⟩ := P8.keep q1011
  have z0 := k1.frozen
  have z1 := k1.cell
  have c0 := P8.box.cell
  go_upto_region 5 with (first
    | (at_builtin; refine wpList_append_run rfl _ _ 22 22 rfl (by simp [Act.eval]) (by simp [Act.eval]) hap ?_)
    | (at_builtin; refine wpList_append_run rfl _ _ 22 9 rfl (by simp [Act.eval]) (by simp [Act.eval]) hap2 ?_))
  clear hap hap2 hw9 hw12 q10 i10 q11 i11 O10 O11 q1011 i1011 k1 k2 k3 z0 z1 c0 e5 P8
  obtain ⟨b0, b1, b2, b3, b4, b5⟩ := blk6 P12.leaf
  have c0 := P12.box.cell
  by_cases ty1 : l.ty = 1
  · have e6 : IntKind.u64.wrap (l.data.length : Int) = (l.data.length : Int) := u64_in ⟨by omega, by omega⟩
    have e7 : (1 : Int) = l.ty := ty1.symm
    obtain ⟨tyv, htyv⟩ : ∃ t, l.ty = t := ⟨_, rfl⟩
    have hput := put_any B a11 d11 y11 (l.data.length : Int) 4 (by omega) (by omega) (by omega) w12 (HOK.out _ P12.grown) P12.own (by have := P12.size; omega) (by have := HX.out; have := HL11.out; omega)
    obtain ⟨y13, hy13⟩ : ∃ y, y11 ++ le (l.data.length : Int) 4 = y := ⟨_, rfl⟩
    have HL13 : Hid (y13.length ≤ xs.length + 80) := Lib.hid (by rw [← hy13, List.length_append, le_length]; have := HL11.out; omega)
    rw [hy13] at hput
    have HY13 := Lib.hid hy13
    have HPut := Lib.hid hput
    clear hput hy13
    have hb1 : w12.cell? ⟨g2, 1, none⟩ = some (.int .i64 1) := by rw [b1, ty1]
    clear b1 e7
    go_wp2_with (first
      | (go_at_call 39; refine HPut.out.mono ?_; rintro e w13 ⟨a13, d13, rfl, O13, q13, i13⟩; go_loud (obtain ⟨w14, hw14, P14⟩ := P12.step q13 O13 i13); go_loud (obtain ⟨k1, k2, k3⟩ := P12.keep q13); have z0 := k1.frozen; have z1 := k1.cell; go_loud (obtain ⟨b0', b1', b2', b3', b4', b5'⟩ := blk6 P14.leaf))
      | (go_at_call 65; refine (stretches_any da l.data.length dd _).mono ?_; rintro e wq ⟨rfl, hwq⟩))
    obtain ⟨gi, hgi⟩ : ∃ g, w14.heap.size = g := ⟨_, rfl⟩
    obtain ⟨w15, hw15⟩ : ∃ w, w14.alloc (.cells #[.slice da l.data.length dd] 22) = w := ⟨_, rfl⟩
    rw [hw15]
    try rw [hgi]
    have g15 : w14.grownBy w15 none := by rw [← hw15]; exact World.grownBy_alloc _ _ none
    have P15 := P14.more g15 (fun r e => by cases e)
    have Bi : Boxed w15 gi 22 (.slice da l.data.length dd) := by rw [← hw15, ← hgi]; exact Boxed.new _ _ _
    have hsz15 : gi + 1 = w15.heap.size := by rw [← hw15, ← hgi]; simp
    have hgi1 : w.heap.size ≤ gi := by rw [← hgi]; exact P14.size
    have hne1 : gi ≠ g1 := by have h1 := (Array.getElem?_eq_some_iff.1 P14.box).1; omega
    have hne2 : gi ≠ g2 := by have h1 := (Array.getElem?_eq_some_iff.1 P14.leaf).1; omega
    have hdw : ∀ W, w.grownBy W (Value.slice A xs.length c).ownBlock → BytesAt W da l.data := fun W g => by
      by_cases hL0 : l.data = []
      · exact .inl hL0
      · exact hD.grown g (fun a e e2 => by
          have h1 := hdB a (by unfold datA; rw [if_neg hL0]; exact e)
          have h2 := (World.ownsRow.lt hO a.block e2.symm).1
          omega)
    have HDW := Lib.hid hdw
    have HDB := Lib.hid hdB
    clear hdw hw15 hgi hw14 z0 z1 k1 k2 k3 q13 i13 O13 b0 b2 b3 b4 b5 b0' b1' b2' b3' b4' b5' c0 hb1 hwq P14 P12 HPut hO hD hdB
    refine wpIn_wide.1 (wp_range_box (n := 9) 8 102 (fun x : Nat × Nat × Nat => #[.int .i64 x.1, .int .i64 x.2.1, .int .i64 x.2.2]) rfl (by decide) (gf := 78) (lb := #[.pointer (some ⟨gi, 0, none⟩)]) rfl trivial (enters_of Tryd.func78 (by kernel_rfl) rfl)
      (enc := fun x : Nat × Nat × Nat => .agg #[.int .i64 x.1, .int .i64 x.2.1, .int .i64 x.2.2]) (stretC_gives 8 gi (by decide) da dd l.data hdd (by omega) w15 (HOK.out _ P15.grown) Bi (HDW.out _ P15.grown)) KeepD.trans ?hKb (fun r h => h.elim)
      (fun pre W => ∃ v, PcS w W B g1 g2 (Value.slice A xs.length c).ownBlock #[.string l.path, .int .i64 l.ty, .int .i64 l.mode, .int .u64 l.stamp, .slice da l.data.length dd, .string l.tgt] v (y13 ++ pre.flatMap (stretB l.data)) ∧ Boxed W gi 22 (.slice da l.data.length dd))
      ?hI ⟨_, by simpa using P15, Bi⟩ ?assign ?body ?done)
    case hKb =>
      intro W j o' hj
      refine ⟨World.putObj_heap_other (by omega), World.putObj_heap_other (by omega), fun a e => World.putObj_heap_other (by have := HDB.out a e; omega)⟩
    case hI =>
      rintro pre X Y row ⟨v, hP, hBi⟩ hG hrow
      have hr : ∀ r, row = some r → w.heap.size ≤ r ∧ ∃ o : Obj, X.heap[r]? = some o ∧ o.isCells = false := fun r e => by
        rcases hrow r e with h | ⟨h1, h2⟩
        · exact h.elim
        · exact ⟨by omega, h2⟩
      refine ⟨v, hP.walk hG hr, hBi.kept hG (fun e => ?_)⟩
      obtain ⟨_, o, ho, hc⟩ := hr gi e.symm
      rw [show X.heap[gi]? = _ from hBi] at ho
      injection ho with ho
      subst ho
      cases hc
    case assign =>
      rintro j pre x W K ⟨v, hP, hBi⟩ hK
      obtain ⟨x0, x1, x2⟩ := x
      gi_wp2
      have hlt := hBi.lt
      have hWs := hP.size
      refine hK W.heap.size _ (KeepsOthers.from (KeepsOthers.alloc W _) _) ⟨Below.heap_alloc W _ 0 (by omega), Below.heap_alloc W _ gi hlt, fun a e => Below.heap_alloc W _ a.block (by have := HDB.out a e; omega)⟩ ⟨v, hP.more (World.grownBy_alloc W _ none) (fun r e => by cases e), hBi.kept (World.grownBy_alloc W _ none) (by simp)⟩ (by omega) (World.alloc_heap_new W _)
    case body =>
      rintro j pre x post gs W hx ⟨v, hP, hBi⟩ hgs hS
      obtain ⟨x0, x1, x2⟩ := x
      have hmem := stretS_mem l.data l.data.length 0 (Nat.zero_le _) (x0, x1, x2) (by
        have h1 : (x0, x1, x2) ∈ stretX l.data := by rw [hx]; simp
        exact h1)
      obtain ⟨hx0, hx12, hx2⟩ := hmem
      dsimp only at hx0 hx12 hx2
      have hlen : (y13 ++ pre.flatMap (stretB l.data)).length ≤ 1300000000 := by
        have h1 := stretX_len l.data
        rw [hx, List.flatMap_append, List.length_append] at h1
        rw [List.length_append]
        have := HL13.out; have := HX.out
        omega
      obtain ⟨ys, hys⟩ : ∃ ys, y13 ++ pre.flatMap (stretB l.data) = ys := ⟨_, rfl⟩
      rw [hys] at hP hlen
      have HYs := Lib.hid hys
      have HLs := Lib.hid hlen
      clear hys hlen hx
      obtain ⟨av, dv, rfl⟩ := hP.form
      have hPd := hP.more (show W.grownBy W.drew none from ⟨rfl, rfl, rfl, Nat.le_refl _, fun _ _ _ => rfl⟩) (fun r e => by cases e)
      have hlt := hBi.lt
      obtain ⟨wa, vb, wb, hwa, hap, Ob, qb, ib⟩ := append_lit 22 B av dv ys [(x0 : Int)] W.drew hPd.own (by have := HLs.out; simp; omega) (by have := hPd.size; omega)
      obtain ⟨yb, hyb⟩ : ∃ y, ys ++ [(x0 : Int)] = y := ⟨_, rfl⟩
      have HLb : Hid (yb.length = ys.length + 1) := Lib.hid (by rw [← hyb]; simp)
      rw [hyb] at Ob
      have HYb := Lib.hid hyb
      clear hyb
      obtain ⟨ab, db, rfl⟩ := Ob.form
      obtain ⟨gw, hgw⟩ : ∃ g, W.drew.heap.size = g := ⟨_, rfl⟩
      rw [hgw] at hap
      simp only [List.map_cons, List.map_nil, List.length_cons, List.length_nil, Nat.zero_add, Nat.reduceAdd] at hwa hap
      have e8 : IntKind.u8.wrap (x0 : Int) = (x0 : Int) := by rw [IntKind.wrap_u8]; omega
      have e9 : IntKind.u64.wrap (x2 : Int) = (x2 : Int) := u64_in ⟨by omega, by omega⟩
      have s0 := hPd.box.cell
      have hSd : W.drew.heap[gs]? = some (.cells #[.int .i64 x0, .int .i64 x1, .int .i64 x2] 102 (0, 0)) := hS
      obtain ⟨t0, t1, t2⟩ := blk3 hSd
      simp only [List.setIfInBounds_toArray, List.set_cons_zero, List.set_cons_succ]
      gi_upto_region 10 with fail
      refine Reg.wpIn_region_late (fun w' => w'.cell? ⟨g1, 0, none⟩ = some (.slice av ys.length dv) ∧ w'.cell? ⟨gs, 0, none⟩ = some (.int .i64 x0) ∧ w'.cell? ⟨gs, 2, none⟩ = some (.int .i64 x2)) 10 [0, 1, 2, 3, 6, 7, 8] [4, 5, 9, 10] (by kernel_rfl) (by kernel_rfl) (by kernel_rfl) ⟨s0, t0, t2⟩ (fun a w h => h.elim) ?_
      iterate 7
        refine Reg.wpLateT_step (v := ?_) rfl ?_ (fun w' hS => ?_) ?_
        rotate_left
        · simp [Region.wanted]
        · obtain ⟨s1, s2, s3⟩ := hS
          go_simp
          try (first | rfl | exact ⟨rfl, rfl⟩)
      have ga : W.drew.grownBy wa none := by rw [← hwa]; exact World.grownBy_alloc _ _ none
      have ka := hPd.box.kept ga (by simp)
      obtain ⟨u0, u1, u2⟩ := blk3 ((ga.block gs (Array.getElem?_eq_some_iff.1 hSd).1 (by simp)).trans hSd)
      refine Reg.wpMainT_run (v := (.slice (some ⟨gw, 0, none⟩) 1 1)) (w' := wa) rfl (by simp [Region.wanted]) ?_ (.inr ⟨ka.cell, u0, u2⟩) ?_
      · go_simp
        try (first | rfl | exact ⟨rfl, rfl⟩)
      obtain ⟨kb, _, kb3⟩ := hPd.keep qb
      have hSb := (qb.block gs (Array.getElem?_eq_some_iff.1 hSd).1 (own_ne3 hPd.own hSd (by decide))).trans hSd
      refine Reg.wpMainT_append rfl rfl _ _ 22 22 rfl (by simp [Act.eval, Act.put]; try rfl) (by simp [Act.eval, Act.put]; try rfl) hap (.inr ⟨kb.cell, (blk3 hSb).1, (blk3 hSb).2.2⟩) ?_
      have hput := put_any B ab db yb (x2 : Int) 4 (by omega) (by omega) (by omega) wb (HOK.out _ kb3) Ob (by have := kb3.size; omega) (by have := HLs.out; have := HLb.out; omega)
      obtain ⟨yc, hyc⟩ : ∃ y, yb ++ le (x2 : Int) 4 = y := ⟨_, rfl⟩
      have HLc : Hid (yc.length = ys.length + 5) := Lib.hid (by rw [← hyc, List.length_append, le_length]; have := HLb.out; omega)
      rw [hyc] at hput
      have HYc := Lib.hid hyc
      clear hyc
      refine Reg.wpMainT_enter (fn := 39) (args := #[.slice ab yb.length db, .int .u64 x2, .int .i64 4]) rfl (by simp [Region.wanted]) ?_ hput ?_
      · go_simp
        try (first | rfl | exact ⟨rfl, rfl⟩)
      rintro e wc ⟨ac, dc, rfl, Oc, qc, ic⟩
      have qbc := grown_ish qb qc ib
      have ibc := ish_trans ib qb.size ic
      obtain ⟨kc, _, kc3⟩ := hPd.keep qbc
      have hSc := (qbc.block gs (Array.getElem?_eq_some_iff.1 hSd).1 (own_ne3 hPd.own hSd (by decide))).trans hSd
      refine ⟨_, rfl, .inr ⟨kc.cell, (blk3 hSc).1, (blk3 hSc).2.2⟩, ?_⟩
      obtain ⟨we, hwe, hPe⟩ := hPd.step qbc Oc ibc
      have hT := hPd.turns qbc (.slice ac yc.length dc) hB0 hB (gi := gi) (x := .slice da l.data.length dd) hBi hne1 (da := datA l.data da) HDB.out w15.heap.size
      rw [hwe] at hT
      have hSe : we.heap[gs]? = some (.cells #[.int .i64 x0, .int .i64 x1, .int .i64 x2] 102 (0, 0)) := by
        rw [← hwe]
        have hg1 := hP.box.lt
        have h1 := (Array.getElem?_eq_some_iff.1 P15.box).1
        exact ((grownBy_setCell' wc g1 _).block gs (Array.getElem?_eq_some_iff.1 hSc).1 (fun e => by injection e with e; omega)).trans hSc
      have z0 := kc.frozen
      have z1 := kc.cell
      refine Reg.wpMainT_skip (w' := we) rfl (by simp [Region.wanted]) ?_ (.inl rfl) ?_
      · go_simp
        try (first | rfl | exact ⟨rfl, rfl⟩)
      refine Reg.wpMainT_nil ?_
      simp only [List.getElem_toArray, List.getElem_cons_succ, List.getElem_cons_zero, Act.put, List.setIfInBounds_toArray, List.set_cons_zero, List.set_cons_succ]
      have HT2 := Lib.hid hT
      have hBe : Boxed we gi 22 (.slice da l.data.length dd) := hT.2.2.1.trans hBi
      clear hT z0 z1 hwe kc kc3 qbc ibc ic qc Oc hput kb kb3 hap hwa ka u0 u1 u2 t0 t1 t2 s0 e8 e9 hPd hSc hSb
      obtain ⟨t0, t1, t2⟩ := blk3 hSe
      rcases hx0 with rfl | rfl
      · have hq : y13 ++ (pre ++ [(0, x1, x2)]).flatMap (stretB l.data) = yc := by
          rw [← HYc.out, ← HYb.out, ← HYs.out]
          simp [stretB]
        rw [← hq, ty1] at hPe
        have HPe := Lib.hid hPe
        clear hPe hq
        gi_wp2
        exact ⟨⟨HT2.out.1.size, HT2.out.1.same⟩, ⟨HT2.out.2.1, HT2.out.2.2.1, HT2.out.2.2.2⟩, ⟨_, HPe.out⟩, hBe⟩
      · have hDe := HDW.out we hPe.grown
        obtain ⟨gd, od, rfl, hBD⟩ : ∃ gd od, da = some ⟨gd, od, none⟩ ∧ BytesAt we (some ⟨gd, od, none⟩) l.data := by
          rcases hDe with h | ⟨gd, od, h1, h2⟩
          · rw [h] at hx12; simp at hx12; omega
          · subst h1; exact ⟨gd, od, rfl, .inr ⟨gd, od, rfl, h2⟩⟩
        have hPf := hPe.more (show we.grownBy we.drew none from ⟨rfl, rfl, rfl, Nat.le_refl _, fun _ _ _ => rfl⟩) (fun r e => by cases e)
        obtain ⟨sd, hsd⟩ : ∃ s, (l.data.drop x1).take x2 = s := ⟨_, rfl⟩
        have hsl : sd.length = x2 := by rw [← hsd, List.length_take, List.length_drop]; omega
        have hBs : BytesAt we.drew (some ⟨gd, od + x1, none⟩) sd := by rw [← hsd]; exact hBD.sub x1 x2
        obtain ⟨vf, wf, hap, Of, qf, jf⟩ := append_row 22 B ac dc yc sd (some ⟨gd, od + x1, none⟩) (dd - x1) we.drew hPf.own hBs (fun e => by cases e) (by have := HLs.out; have := HLc.out; omega) (by have := hPf.size; omega)
        rw [hsl] at hap
        obtain ⟨yf, hyf⟩ : ∃ y, yc ++ sd = y := ⟨_, rfl⟩
        rw [hyf] at Of
        have hq : y13 ++ (pre ++ [(1, x1, x2)]).flatMap (stretB l.data) = yf := by
          rw [← hyf, ← HYc.out, ← HYb.out, ← HYs.out, ← hsd]
          simp [stretB]
        have HQ := Lib.hid hq
        clear hq hyf hsd
        obtain ⟨af, df, rfl⟩ := Of.form
        obtain ⟨wg, hwg, hPg⟩ := hPf.step qf Of jf
        obtain ⟨kf, kf2, _⟩ := hPf.keep qf
        have hT := hPf.turns qf (.slice af yf.length df) hB0 hB (gi := gi) (x := .slice (some ⟨gd, od, none⟩) l.data.length dd) hBe hne1 (da := datA l.data (some ⟨gd, od, none⟩)) HDB.out w15.heap.size
        rw [hwg] at hT
        have HT3 := Lib.hid hT
        have hBg : Boxed wg gi 22 (.slice (some ⟨gd, od, none⟩) l.data.length dd) := hT.2.2.1.trans hBe
        clear hT
        obtain ⟨x3, hx3⟩ : ∃ x3, x1 + x2 = x3 := ⟨_, rfl⟩
        have e8 : IntKind.i64.wrap ((x1 : Int) + (x2 : Int)) = (x3 : Int) := by rw [IntWalk.i64_in _ ⟨by omega, by omega⟩]; omega
        have l1 : (0 : Int) ≤ (x3 : Int) := by omega
        have l2 : x1 ≤ x3 := by omega
        have l3 : (x3 : Int) ≤ (dd : Int) := by omega
        have l4 : x3 - x1 = x2 := by omega
        have l5 : ¬ (dd = x1) := by omega
        clear hx3
        have s0 := hPf.box.cell
        have s1 := (blk6 hPf.leaf).2.2.2.2.1
        have hSf : we.drew.heap[gs]? = some (.cells #[.int .i64 1, .int .i64 x1, .int .i64 x2] 102 (0, 0)) := hSe
        obtain ⟨v0, v1, v2⟩ := blk3 hSf
        have z0 := kf.frozen
        have z1 := kf.cell
        gi_upto_region 12 with fail
        refine Reg.wpIn_region_late (fun w' => w'.cell? ⟨g1, 0, none⟩ = some (.slice ac yc.length dc) ∧ w'.cell? ⟨g2, 4, none⟩ = some (.slice (some ⟨gd, od, none⟩) l.data.length dd) ∧ w'.cell? ⟨gs, 1, none⟩ = some (.int .i64 x1) ∧ w'.cell? ⟨gs, 2, none⟩ = some (.int .i64 x2)) 12 [0, 1, 2, 3, 4, 5, 6, 7, 8, 9, 10] [11, 12] (by kernel_rfl) (by kernel_rfl) (by kernel_rfl) ⟨s0, s1, v1, v2⟩ (fun a w h => h.elim) ?_
        iterate 11
          refine Reg.wpLateT_step (v := ?_) rfl ?_ (fun w' hS => ?_) ?_
          rotate_left
          · simp [Region.wanted]
          · obtain ⟨q1, q2, q3, q4⟩ := hS
            go_simp
            try (first | rfl | exact ⟨rfl, rfl⟩)
        refine Reg.wpMainT_append rfl rfl _ _ 22 22 rfl (by simp [Act.eval, Act.put]; try rfl) (by simp [Act.eval, Act.put]; try rfl) hap (.inr ⟨kf.cell, (blk6 kf2).2.2.2.2.1, (blk3 ((qf.block gs (Array.getElem?_eq_some_iff.1 hSf).1 (own_ne3 hPf.own hSf (by decide))).trans hSf)).2.1, (blk3 ((qf.block gs (Array.getElem?_eq_some_iff.1 hSf).1 (own_ne3 hPf.own hSf (by decide))).trans hSf)).2.2⟩) ?_
        refine Reg.wpMainT_skip (w' := wg) rfl (by simp [Region.wanted]) ?_ (.inl rfl) ?_
        · go_simp
          try (first | rfl | exact ⟨rfl, rfl⟩)
        refine Reg.wpMainT_nil ?_
        simp only [List.getElem_toArray, List.getElem_cons_succ, List.getElem_cons_zero, Act.put, List.setIfInBounds_toArray, List.set_cons_zero, List.set_cons_succ]
        rw [← HQ.out, ty1] at hPg
        have HPg := Lib.hid hPg
        clear hPg
        gi_wp2
        exact ⟨KeepsFrom.trans ⟨HT2.out.1.size, HT2.out.1.same⟩ ⟨HT3.out.1.size, HT3.out.1.same⟩, KeepD.trans ⟨HT2.out.2.1, HT2.out.2.2.1, HT2.out.2.2.2⟩ ⟨HT3.out.2.1, HT3.out.2.2.1, HT3.out.2.2.2⟩, ⟨_, HPg.out⟩, hBg⟩
    case done =>
      rintro D W hDs ⟨v, hP, hBi⟩ hK
      have hfin : y13 ++ (stretX l.data).flatMap (stretB l.data) = Z := by
        rw [← HZ.out, ← HR.out, ← HY13.out, ← HY11.out, ← HY10.out, ← HY7.out.2, ← HY7.out.1, ← HY4.out]
        unfold pieceB pieceH pieceT cutB
        rw [if_pos ty1, hm, hnm, show m - 1 = k by omega]
        simp only [List.append_assoc]
      rw [hfin] at hP
      have c0 := hP.box.cell
      obtain ⟨av, dv, rfl⟩ := hP.form
      have hP2 := hP.walk (grownBy_putObj' W D (.deferred none)) (fun r e => by cases e; exact ⟨by omega, _, hK, rfl⟩)
      have HP2 := Lib.hid hP2
      clear hP hP2 hfin
      go_wp2_with fail
      exact ⟨by simp, .inl ⟨_, _, rfl, run_takeDeferred hK, _, results_tmp rfl _ _ _, av, dv, rfl, HP2.out.own, HP2.out.grown, HP2.out.ish⟩⟩
  · by_cases ty3 : l.ty = 3
    · have hb1 : w12.cell? ⟨g2, 1, none⟩ = some (.int .i64 3) := by rw [b1, ty3]
      clear b1
      have htg : 1 ≤ l.tgt.size ∧ l.tgt.size ≤ 127 := by
        have h := HT.out.2.2 ty3
        unfold targetB at h
        simp only [Bool.and_eq_true, decide_eq_true_eq] at h
        exact h.1
      have Pd := P12.more (show w12.grownBy w12.drew none from ⟨rfl, rfl, rfl, Nat.le_refl _, fun _ _ _ => rfl⟩) (fun r e => by cases e)
      obtain ⟨wa, vb, wb, hwa, hap, Ob, qb, ib⟩ := append_lit 22 B a11 d11 y11 [(l.tgt.size : Int)] w12.drew Pd.own (by have := HL11.out; have := HX.out; simp; omega) (by have := Pd.size; omega)
      obtain ⟨yb, hyb⟩ : ∃ y, y11 ++ [(l.tgt.size : Int)] = y := ⟨_, rfl⟩
      have HLb : Hid (yb.length = y11.length + 1) := Lib.hid (by rw [← hyb]; simp)
      rw [hyb] at Ob
      obtain ⟨ab, db, rfl⟩ := Ob.form
      obtain ⟨vc, wc, hap2, Oc, qc, ic⟩ := append_str 22 B ab db yb l.tgt wb Ob (by have := HLb.out; have := HL11.out; have := HX.out; omega) (by have := Pd.size; have := qb.size; omega)
      have hfin : yb ++ bytesI l.tgt = Z := by
        rw [← HZ.out, ← HR.out, ← hyb, ← HY11.out, ← HY10.out, ← HY7.out.2, ← HY7.out.1, ← HY4.out]
        unfold pieceB pieceH pieceT
        rw [if_neg ty1, if_pos ty3, hm, hnm, show m - 1 = k by omega]
        simp only [List.append_assoc]
      rw [hfin] at Oc
      clear hfin hyb
      obtain ⟨av, dv, rfl⟩ := Oc.form
      obtain ⟨gw, hgw⟩ : ∃ g, w12.drew.heap.size = g := ⟨_, rfl⟩
      rw [hgw] at hap
      simp only [List.map_cons, List.map_nil, List.length_cons, List.length_nil, Nat.zero_add, Nat.reduceAdd] at hwa hap
      have e8 : IntKind.u8.wrap (l.tgt.size : Int) = (l.tgt.size : Int) := by rw [IntKind.wrap_u8]; omega
      have qbc := grown_ish qb qc ib
      have ibc := ish_trans ib qb.size ic
      obtain ⟨we, hwe, hPe⟩ := Pd.step qbc Oc ibc
      have ga : w12.drew.grownBy wa none := by rw [← hwa]; exact World.grownBy_alloc _ _ none
      have ka := Pd.box.kept ga (by simp)
      have ka2 := (ga.block g2 (Array.getElem?_eq_some_iff.1 Pd.leaf).1 (by simp)).trans Pd.leaf
      obtain ⟨kb, kb2, _⟩ := Pd.keep qb
      obtain ⟨kc, kc2, _⟩ := Pd.keep qbc
      have z0 := kc.frozen
      have z1 := kc.cell
      have cE := hPe.box.cell
      go_upto_region 14 with fail
      refine Reg.wp_region_late (fun w' => w'.cell? ⟨g1, 0, none⟩ = some (.slice a11 y11.length d11) ∧ w'.cell? ⟨g2, 5, none⟩ = some (.string l.tgt)) 10 [0, 1, 2, 3, 4, 7, 8] [5, 6, 9, 10] (by kernel_rfl) (by kernel_rfl) ⟨Pd.box.cell, (blk6 Pd.leaf).2.2.2.2.2⟩ ?_
      iterate 7
        refine Reg.wpLateT_step (v := ?_) rfl ?_ (fun w' hS => ?_) ?_
        rotate_left
        · simp [Region.wanted]
        · obtain ⟨s1, s2⟩ := hS
          go_simp
          try (first | rfl | exact ⟨rfl, rfl⟩)
      refine Reg.wpMainT_run (v := (.slice (some ⟨gw, 0, none⟩) 1 1)) (w' := wa) rfl (by simp [Region.wanted]) ?_ (.inr ⟨ka.cell, (blk6 ka2).2.2.2.2.2⟩) ?_
      · go_simp
        try (first | rfl | exact ⟨rfl, rfl⟩)
      refine Reg.wpMainT_append rfl rfl _ _ 22 22 rfl (by simp [Act.eval, Act.put]; try rfl) (by simp [Act.eval, Act.put]; try rfl) hap (.inr ⟨kb.cell, (blk6 kb2).2.2.2.2.2⟩) ?_
      refine Reg.wpMainT_append rfl rfl _ _ 22 9 rfl (by simp [Act.eval, Act.put]; try rfl) (by simp [Act.eval, Act.put]; try rfl) hap2 (.inr ⟨kc.cell, (blk6 kc2).2.2.2.2.2⟩) ?_
      refine Reg.wpMainT_skip (w' := we) rfl (by simp [Region.wanted]) ?_ (.inl rfl) ?_
      · go_simp
        try (first | rfl | exact ⟨rfl, rfl⟩)
      refine Reg.wpMainT_nil ?_
      simp only [List.getElem_toArray, List.getElem_cons_succ, List.getElem_cons_zero, Act.put, List.setIfInBounds_toArray, List.set_cons_zero, List.set_cons_succ]
      have HPe := Lib.hid hPe
      clear hPe hap hap2 hwa hwe z0 z1 kb kb2 kc kc2 ka ka2 qb qc ib ic qbc ibc Ob Oc
      go_wp2_with fail
      exact ⟨_, results_tmp rfl _ _ _, av, dv, rfl, HPe.out.own, HPe.out.grown, HPe.out.ish⟩
    · have ty2 : l.ty = 2 := by omega
      have hb1 : w12.cell? ⟨g2, 1, none⟩ = some (.int .i64 2) := by rw [b1, ty2]
      clear b1
      have hfin : y11 = Z := by
        rw [← HZ.out, ← HR.out, ← HY11.out, ← HY10.out, ← HY7.out.2, ← HY7.out.1, ← HY4.out]
        unfold pieceB pieceH pieceT
        rw [if_neg ty1, if_neg ty3, hm, hnm, show m - 1 = k by omega]
        simp only [List.append_assoc, List.append_nil]
      subst hfin
      have HP := Lib.hid P12
      clear P12 ty1 ty3
      go_wp2_with fail
      exact ⟨_, results_tmp rfl _ _ _, a11, d11, rfl, HP.out.own, HP.out.grown, HP.out.ish⟩
end Go.Proofs.YtlnaeppbhjmocaaDoor
set_option linter.unusedSimpArgs false
set_option linter.unusedVariables false
namespace Go.Proofs.YtlnaeppbhjmocaaDoor
open Go.RowKit Go.Proofs Go.Proofs.YtlnaeppbhjmocaaDoorW.PrintWords Go.Proofs.YtlnaeppbhjmocaaDoorW.PrintLast Go.Proofs.YtlnaeppbhjmocaaDoorW.PrintMore

/-- a row: full and not the call's own, or the call's own -/
def RowF (w wc : World) (A : Addr) (xs : List Int) (a : Option Addr) (d : Nat) (zs : List Int) : Prop :=
  (a = some A ∧ d = xs.length ∧ zs = xs ∧ BytesAt wc a zs) ∨ OwnB wc w.heap.size (.slice a zs.length d) zs
set_option maxRecDepth 100000 in
theorem rowF_append {w wc : World} {A : Addr} {xs : List Int} {a : Option Addr} {d : Nat} {zs : List Int} (h : RowF w wc A xs a d zs) (hg : w.grownBy wc none) (y : Int) (hl : zs.length ≤ 1099511627000) :
    ∃ w1 v' w', wc.alloc (.cells #[.int .u8 y] 5) = w1 ∧ (Builtin.append_ #[22, 22] 22 #[.slice a zs.length d, .slice (some ⟨wc.heap.size, 0, none⟩) 1 1]).run Tryd.prog w1 = .ok v' w' ∧ OwnB w' w.heap.size v' (zs ++ [y]) ∧ w.grownBy w' none := by
  have hsz := hg.size
  rcases h with ⟨rfl, rfl, rfl, hB⟩ | h
  · obtain ⟨i, hi, hz, hs, hby⟩ := info_byte
    have ga : wc.grownBy (wc.alloc (.cells #[.int .u8 y] 5)) none := World.grownBy_alloc _ _ none
    have hB1 : BytesAt (wc.alloc (.cells #[.int .u8 y] 5)) (some A) zs := hB.grown ga (fun a e => by simp)
    have holds : ∀ j u, (zs.map (Value.int .u8))[j]? = some u → (wc.alloc (.cells #[.int .u8 y] 5)).cell? (A.add j) = some u := by
      intro j u hj
      rw [List.getElem?_map, Option.map_eq_some_iff] at hj
      obtain ⟨x, hx, rfl⟩ := hj
      rcases hB1 with h | ⟨g, o, e, _, h⟩
      · rw [h] at hx; simp at hx
      · injection e with e
        subst e
        rw [Lib.add_plain]
        exact h j x hx
    have hnews : ∀ j u, [Value.int .u8 y][j]? = some u → (wc.alloc (.cells #[.int .u8 y] 5)).cell? ((⟨wc.heap.size, 0, none⟩ : Addr).add j) = some u := cell_one_new _ _ _
    obtain ⟨v', w', hr, h2, h3⟩ := run_append_arg_grows (P := Tryd.prog) (w := wc.alloc (.cells #[.int .u8 y] 5)) 22 22 5 i (.int .u8 0) 1 1 Tryd.underlying22 hi hz hs hby rfl (by decide) A zs.length zs.length (zs.map (Value.int .u8)) (by simp) holds ⟨wc.heap.size, 0, none⟩ 1 1 [.int .u8 y] rfl hnews (by omega) (by unfold maxLen; omega) (by omega)
    refine ⟨_, v', w', rfl, hr, ?_, grown_trans hg (grown_trans ga h3)⟩
    unfold OwnB
    rw [List.length_append, List.map_append]
    obtain ⟨q1, q2⟩ := h2
    refine ⟨by simpa using q1, ?_⟩
    rcases q2 with q2 | ⟨g', cap, cur, e1, e2, r⟩
    · exact .inl (by simpa using q2)
    · exact .inr ⟨g', cap, cur, e1, Nat.le_trans hsz (Nat.le_trans ga.size e2), by simpa using r⟩
  · obtain ⟨w1, v', w', h1, h2, h3, h4, h5⟩ := append_lit 22 w.heap.size a d zs [y] wc h (by simp; omega) hsz
    refine ⟨w1, v', w', h1, h2, h3, ?_⟩
    exact grown_own hg h4 (fun i e => (World.ownsRow.lt h i e).1)
set_option maxHeartbeats 3200000 in
set_option maxRecDepth 100000 in
theorem put_first (A : Addr) (xs : List Int) (x : Int) (n : Nat) (h0 : 0 ≤ x) (hx : x ≤ 18446744073709551615) (hn : 0 < n) (hn8 : n ≤ 8) (w : World) (hw : Ok w) (hO : BytesAt w (some A) xs) (hl : xs.length ≤ 1048576) :
    Calls Tryd.prog 39 #[.slice (some A) xs.length xs.length, .int .u64 x, .int .i64 n] w fun e w' => ∃ a d, e = .returned (.slice a (xs ++ le x n).length d) ∧ OwnB w' w.heap.size (.slice a (xs ++ le x n).length d) (xs ++ le x n) ∧ w.grownBy w' none := by
  have HO := Lib.hid hO
  have HN := Lib.hid hn
  clear hO
  go_enter Tryd.func39, Tryd.ntmps39
  go_wp2_with fail
  go_loopg [0, 1, 8] n (fun k v0 v1 v8 wc => ∃ (i : Nat) (y : Int) (zs : List Int) (a : Option Addr) (d : Nat), i + k = n ∧ v0 = .slice a zs.length d ∧ v1 = .int .u64 y ∧ v8 = .int .i64 i ∧ 0 ≤ y ∧ y ≤ 18446744073709551615 ∧ zs.length = xs.length + i ∧ Hid (zs ++ le y k = xs ++ le x n) ∧ Hid (RowF w wc A xs a d zs) ∧ Hid (w.grownBy wc none))
  case atStart => exact ⟨0, x, xs, some A, xs.length, by omega, rfl, rfl, rfl, h0, hx, by omega, Lib.hid rfl, Lib.hid (.inl ⟨rfl, rfl, rfl, HO.out⟩), Lib.hid (grown_refl w _)⟩
  case round =>
    obtain ⟨i, y, zs, a, d, hik, rfl, rfl, rfl, hy0, hy1, hzl, HE, O, G⟩ := hrel
    cases gk with
    | zero =>
      obtain rfl : i = n := by omega
      have d1 : decide ((i : Int) < (i : Int)) = false := decide_eq_false (by omega)
      have he : zs = xs ++ le x i := by have := HE.out; simpa [le] using this
      subst he
      go_wp2
      go_ret
      refine ⟨a, d, rfl, ?_, G.out⟩
      rcases O.out with ⟨_, _, h, _⟩ | h
      · have := congrArg List.length h
        rw [List.length_append, le_length] at this
        have := HN.out
        omega
      · exact h
    | succ k =>
      have d1 : decide ((i : Int) < (n : Int)) = true := decide_eq_true (by omega)
      have w8 : IntKind.u8.wrap y = y % 256 := by rw [IntKind.wrap_u8]
      obtain ⟨w3, v5, w5, hw3, hap, O5, q5⟩ := rowF_append O.out G.out (y % 256) (by omega)
      obtain ⟨g3, hg3⟩ : ∃ g, wr.heap.size = g := ⟨_, rfl⟩
      rw [hg3] at hap
      obtain ⟨a5, d5, hv5⟩ := O5.form
      subst hv5
      obtain ⟨z5, hz5⟩ : ∃ z, zs ++ [y % 256] = z := ⟨_, rfl⟩
      rw [hz5] at O5 hap
      have HZ := Lib.hid hz5
      have HO5 := Lib.hid O5
      have HQ := Lib.hid q5
      clear O5 hz5 q5
      go_wp2_with (at_builtin; refine wpList_append_run rfl _ _ 22 22 rfl (by simp [Act.eval]) (by simp [Act.eval]) hap ?_)
      go_roundg k
      case measure => omega
      case rel =>
        refine ⟨i + 1, y / 256, z5, a5, d5, by omega, rfl, rfl, by go_num, by omega, by omega, by rw [← HZ.out]; simp [hzl]; omega, Lib.hid ?_, Lib.hid (.inr HO5.out), HQ⟩
        have := HE.out
        simp only [le] at this
        rw [← HZ.out]
        simpa using this
end Go.Proofs.YtlnaeppbhjmocaaDoor
set_option linter.unusedSimpArgs false
set_option linter.unusedVariables false
namespace Go.Proofs.YtlnaeppbhjmocaaDoor
open Go.RowKit Go.Proofs Go.Proofs.YtlnaeppbhjmocaaDoorW.PrintWords Go.Proofs.YtlnaeppbhjmocaaDoorW.PrintMore

theorem eparts_j1 (k : Nat) (s : ByteArray) (l : List ByteArray) (word : ByteArray) (i : Nat) (hi : i ≤ 1048576) (hl : l.length ≤ i) :
    PPack.shaleref16_parts.j1 (k + 1) s l word (i : Int) false = PPack.shaleref16_parts.l0 k s (if okW word.data.toList then l ++ [word] else l) ⟨#[]⟩ ((i + 1 : Nat) : Int) := by
  simp only [PPack.shaleref16_parts.j1, toL]
  rw [if_neg (by simp), wr64 ⟨by omega, by omega⟩, Int.natCast_add]
  by_cases h1 : word.data.toList = []
  · rw [if_pos h1, if_neg (fun h => h.1 h1)]; rfl
  · rw [if_neg h1]
    by_cases h2 : word.data.toList = [46]
    · rw [if_pos h2, if_neg (fun h => h.2 h2)]; rfl
    · rw [if_neg h2, if_pos (by omega), if_pos (show okW word.data.toList from And.intro h1 h2)]; rfl
theorem eparts_l0 (s : ByteArray) (hs : s.size ≤ 1048575) : ∀ (d k : Nat) (l : List ByteArray) (word : ByteArray) (i : Nat), i + d = s.size → 2 * d + 3 ≤ k → l.length ≤ i → word.size ≤ i →
    PPack.shaleref16_parts.l0 k s l word (i : Int) = some (l ++ (partsL word.data.toList (s.data.toList.drop i)).map toB) := by
  intro d
  induction d with
  | zero =>
    intro k l word i h hk hl hw
    obtain ⟨k, rfl⟩ : ∃ m, k = m + 3 := ⟨k - 3, by omega⟩
    have hd : s.data.toList.drop i = [] := List.drop_eq_nil_of_le (by rw [show s.data.toList.length = s.size from rfl]; omega)
    rw [PPack.shaleref16_parts.l0, if_pos (by omega), if_neg (by omega), eparts_j1 _ _ _ _ _ (by omega) hl, PPack.shaleref16_parts.l0, if_neg (by omega), hd, partsL]
    by_cases h1 : okW word.data.toList
    · rw [if_pos h1, if_pos h1]; simp [toB]
    · rw [if_neg h1, if_neg h1]; simp
  | succ d ih =>
    intro k l word i h hk hl hw
    obtain ⟨k, rfl⟩ : ∃ m, k = m + 2 := ⟨k - 2, by omega⟩
    obtain ⟨c, hd, hb, he⟩ := bt_lt (s := s) (i := i) (by omega)
    rw [PPack.shaleref16_parts.l0, if_pos (by omega), if_pos (by omega), if_pos (by omega), hb, hd, partsL]
    by_cases h1 : c = 47
    · subst h1
      rw [if_pos rfl, show ((((47 : UInt8).toNat : Int)) != 47) = false from by decide, eparts_j1 _ _ _ _ _ (by omega) hl, ih k (if okW word.data.toList then l ++ [word] else l) ⟨#[]⟩ (i + 1) (by omega) (by omega) (by split; (rw [List.length_append]; show l.length + 1 ≤ i + 1; omega); omega) (show 0 ≤ i + 1 by omega)]
      by_cases h2 : okW word.data.toList
      · rw [if_pos h2, if_pos h2]; simp [toB]
      · rw [if_neg h2, if_neg h2]
    · have h2 : (((c.toNat : Int)) != 47) = true := by
        simp only [bne_iff_ne, ne_eq]
        intro h
        exact h1 (UInt8.toNat_inj.mp (by simpa using (by omega : c.toNat = 47)))
      have w1 : wrap64 ((i : Int) + 1) = ((i + 1 : Nat) : Int) := by rw [wr64 ⟨by omega, by omega⟩]; omega
      rw [if_neg h1, h2]
      simp only [PPack.shaleref16_parts.j1, w1, Int.toNat_natCast, he]
      rw [if_pos trivial, if_pos (by omega), if_pos (by omega), if_pos (by omega), if_pos (show word.size + (⟨#[c]⟩ : ByteArray).size ≤ 9223372036854775807 by (show word.size + 1 ≤ _); omega), ih k _ _ (i + 1) (by omega) (by omega) (by omega) (by rw [ByteArray.size_append]; show word.size + 1 ≤ i + 1; omega)]
      congr 3
      first | done | (rw [ByteArray.data_append]; simp)
theorem ezero_l0 (s : ByteArray) (hs : s.size ≤ 1048575) : ∀ (d k i : Nat), i + d = s.size → d < k → PPack.shaleref16_zero.l0 k s (i : Int) = some (decide ((0 : UInt8) ∈ s.data.toList.drop i)) := by
  intro d
  induction d with
  | zero =>
    intro k i h hk
    obtain ⟨k, rfl⟩ : ∃ m, k = m + 1 := ⟨k - 1, by omega⟩
    rw [PPack.shaleref16_zero.l0, if_neg (by omega), List.drop_eq_nil_of_le (by rw [show s.data.toList.length = s.size from rfl]; omega)]
    rfl
  | succ d ih =>
    intro k i h hk
    obtain ⟨k, rfl⟩ : ∃ m, k = m + 1 := ⟨k - 1, by omega⟩
    obtain ⟨c, hd, hb, he⟩ := bt_lt (s := s) (i := i) (by omega)
    have w1 : wrap64 ((i : Int) + 1) = ((i + 1 : Nat) : Int) := by rw [wr64 ⟨by omega, by omega⟩]; omega
    rw [PPack.shaleref16_zero.l0, if_pos (by omega), if_pos (by omega), hb, hd]
    by_cases hc : c = 0
    · subst hc
      rw [if_pos (show (((0 : UInt8).toNat : Int)) = 0 from rfl)]
      simp
    · have hc2 : ¬ ((c.toNat : Int) = 0) := fun h => hc (UInt8.toNat_inj.mp (by simpa using (by omega : c.toNat = 0)))
      rw [if_neg hc2, w1, ih k (i + 1) (by omega) (by omega)]
      congr 1
      have : (0 : UInt8) ≠ c := fun e => hc e.symm
      simp [this]
theorem edrop (l : List ByteArray) (i : Nat) (h : i < l.length) : l.drop i = l[i] :: l.drop (i + 1) := List.drop_eq_getElem_cons h
theorem enames_l0 (l : List ByteArray) (hl : l.length ≤ 1048576) : ∀ (d k i : Nat), i + d = l.length → d < k → PPack.shaleref16_names.l0 k l (i : Int) = some (if (l.drop i).any (fun x => decide (63 < x.size)) = true then ([], 161) else (l, 0)) := by
  intro d
  induction d with
  | zero =>
    intro k i hh hk
    obtain ⟨k, rfl⟩ : ∃ m, k = m + 1 := ⟨k - 1, by omega⟩
    rw [PPack.shaleref16_names.l0, if_neg (by omega), List.drop_eq_nil_of_le (by omega)]
    rfl
  | succ d ih =>
    intro k i hh hk
    obtain ⟨k, rfl⟩ : ∃ m, k = m + 1 := ⟨k - 1, by omega⟩
    have w1 : wrap64 ((i : Int) + 1) = ((i + 1 : Nat) : Int) := by rw [wr64 ⟨by omega, by omega⟩]; omega
    rw [PPack.shaleref16_names.l0, if_pos (by omega), if_pos (by omega), rdOf_nat l i (by omega), edrop l i (by omega), List.any_cons, w1]
    by_cases h : 63 < l[i].size
    · rw [if_pos (by omega), if_pos (by simp [h])]
    · rw [if_neg (by omega), ih k (i + 1) (by omega) (by omega)]
      simp [h]
theorem enames18_l0 (l : List ByteArray) (hl : l.length ≤ 1048576) : ∀ (d k i : Nat), i + d = l.length → d < k → PPack.shaleref18_names.l0 k l (i : Int) = some (if (l.drop i).any isUp = true then ([], false) else (l, true)) := by
  intro d
  induction d with
  | zero =>
    intro k i hh hk
    obtain ⟨k, rfl⟩ : ∃ m, k = m + 1 := ⟨k - 1, by omega⟩
    rw [PPack.shaleref18_names.l0, if_neg (by omega), List.drop_eq_nil_of_le (by omega)]
    rfl
  | succ d ih =>
    intro k i hh hk
    obtain ⟨k, rfl⟩ : ∃ m, k = m + 1 := ⟨k - 1, by omega⟩
    have w1 : wrap64 ((i : Int) + 1) = ((i + 1 : Nat) : Int) := by rw [wr64 ⟨by omega, by omega⟩]; omega
    rw [PPack.shaleref18_names.l0, if_pos (by omega), if_pos (by omega), rdOf_nat l i (by omega), toL, edrop l i (by omega), List.any_cons, w1]
    by_cases h : l[i].data.toList = [46, 46]
    · rw [if_pos h, if_pos (by simp [isUp, h])]
    · rw [if_neg h, ih k (i + 1) (by omega) (by omega)]
      have : isUp l[i] = false := by simp [isUp, h]
      simp [this]
theorem etrim_l0 : ∀ (l : List ByteArray) (k : Nat), l.length < k → PPack.shaleref16_trimmed.l0 k l = some (l.dropWhile isUp) := by
  intro l
  induction l with
  | nil =>
    intro k hk
    obtain ⟨k, rfl⟩ : ∃ m, k = m + 1 := ⟨k - 1, by omega⟩
    rw [PPack.shaleref16_trimmed.l0, if_neg (by simp)]
    rfl
  | cons x r ih =>
    intro k hk
    obtain ⟨k, rfl⟩ : ∃ m, k = m + 1 := ⟨k - 1, by omega⟩
    have hk' : r.length < k := by rw [List.length_cons] at hk; omega
    rw [PPack.shaleref16_trimmed.l0, if_pos (by rw [List.length_cons]; omega), if_pos (by rw [List.length_cons]; omega), show rdOf ByteArray.empty (x :: r) 0 = x from rfl, toL, List.dropWhile_cons]
    by_cases h : x.data.toList = [46, 46]
    · rw [if_pos h, if_pos (by rw [List.length_cons]; omega), show (x :: r).drop 1 = r from rfl, ih k hk', if_pos (by simp [isUp, h])]
    · rw [if_neg h, if_neg (by simp [isUp, h])]
theorem etog_l0 (l : List ByteArray) (hl : (l.flatMap fun n => slash :: n.data.toList).length ≤ 1048576) (hl2 : l.length ≤ 1048576) : ∀ (d k i : Nat) (s : ByteArray), i + d = l.length → d < k → s.data.toList = ((l.take i).flatMap fun n => slash :: n.data.toList) →
    PPack.shaleref16_together.l0 k l s (i : Int) = some ⟨(l.flatMap fun n => slash :: n.data.toList).toArray⟩ := by
  intro d
  induction d with
  | zero =>
    intro k i s hh hk hs
    obtain ⟨k, rfl⟩ : ∃ m, k = m + 1 := ⟨k - 1, by omega⟩
    rw [PPack.shaleref16_together.l0, if_neg (by omega)]
    rw [List.take_of_length_le (by omega)] at hs
    rw [← hs]
  | succ d ih =>
    intro k i s hh hk hs
    obtain ⟨k, rfl⟩ : ∃ m, k = m + 1 := ⟨k - 1, by omega⟩
    have w1 : wrap64 ((i : Int) + 1) = ((i + 1 : Nat) : Int) := by rw [wr64 ⟨by omega, by omega⟩]; omega
    have hsp : l.take (i + 1) = l.take i ++ [l[i]] := (List.take_append_getElem (by omega)).symm
    have hle : ((l.take (i + 1)).flatMap fun n => slash :: n.data.toList).length ≤ (l.flatMap fun n => slash :: n.data.toList).length := by
      conv => rhs; rw [← List.take_append_drop (i + 1) l]
      rw [List.flatMap_append, List.length_append]; omega
    have hnx : (s ++ ((⟨#[47]⟩ : ByteArray) ++ l[i])).data.toList = ((l.take (i + 1)).flatMap fun n => slash :: n.data.toList) := by
      rw [hsp, List.flatMap_append, ← hs, ByteArray.data_append, ByteArray.data_append]
      simp [slash]
    have hsz : (s ++ ((⟨#[47]⟩ : ByteArray) ++ l[i])).size ≤ 1048576 := by
      have h9 : (s ++ ((⟨#[47]⟩ : ByteArray) ++ l[i])).size = (s ++ ((⟨#[47]⟩ : ByteArray) ++ l[i])).data.toList.length := rfl
      rw [h9, hnx]; omega
    have hsz2 := hsz
    rw [ByteArray.size_append] at hsz2
    have hsz3 := hsz2
    rw [ByteArray.size_append] at hsz3
    rw [PPack.shaleref16_together.l0, if_pos (by omega), if_pos (by omega), rdOf_nat l i (by omega), if_pos (by have : (⟨#[47]⟩ : ByteArray).size = 1 := rfl; omega), if_pos (by omega), w1]
    exact ih k (i + 1) _ (by omega) (by omega) hnx
theorem etog (l : List ByteArray) (hl : (l.map fun x => x.size + 1).sum ≤ 1048576) (hl2 : l.length ≤ 1048576) (k : Nat) (hk : l.length < k) : PPack.shaleref16_together.f k l = some ⟨(pathL l).toArray⟩ := by
  unfold PPack.shaleref16_together.f pathL
  by_cases he : l = []
  · subst he; rfl
  · have hn : l.length ≠ 0 := fun e => he (List.length_eq_zero_iff.mp e)
    rw [if_neg he, if_neg (by omega)]
    exact etog_l0 l (by rw [pathL_len]; exact hl) hl2 l.length k 0 ⟨#[]⟩ (by omega) (by omega) (by simp)
theorem esplit (s : ByteArray) (hs : s.size ≤ 1048575) (k : Nat) (hk : 2 * 1048576 + 8 ≤ k) : PPack.shaleref16_Split.f k s = some (splitQ s.data.toList) := by
  have hlen : s.data.toList.length = s.size := rfl
  have hz := ezero_l0 s hs s.size k 0 (by omega) (by omega)
  have hp := eparts_l0 s hs s.size k [] ⟨#[]⟩ 0 (by omega) (by omega) (by simp) (Nat.le_refl 0)
  rw [List.drop_zero] at hz
  rw [List.drop_zero, List.nil_append, show (⟨#[]⟩ : ByteArray).data.toList = [] from rfl] at hp
  have hpl : (partsL [] s.data.toList).length ≤ 1048576 := by
    have h1 := parts_total s.data.toList []
    have h2 : ∀ l : List (List UInt8), l.length ≤ (l.map fun x => x.length + 1).sum := by
      intro l
      induction l with
      | nil => simp
      | cons x r ih => simp; omega
    have h3 := h2 (partsL [] s.data.toList)
    simp at h1
    omega
  have hn := enames_l0 ((partsL [] s.data.toList).map toB) (by rw [List.length_map]; exact hpl) ((partsL [] s.data.toList).map toB).length k 0 (by omega) (by rw [List.length_map]; omega)
  rw [List.drop_zero] at hn
  have hnm : PPack.shaleref16_names.f k s = some (namesQ s.data.toList) := by
    unfold PPack.shaleref16_names.f PPack.shaleref16_zero.f PPack.shaleref16_parts.f namesQ
    simp only [Int.ofNat_zero, Int.natCast_zero] at hz hp hn
    rw [hz, Option.bind_some]
    by_cases h0 : (0 : UInt8) ∈ s.data.toList
    · rw [if_pos (by simp [h0]), if_pos h0]
    · rw [if_neg (by simp [h0]), if_neg h0]
      by_cases h1 : 1023 < s.data.toList.length
      · rw [if_pos (by omega), if_pos h1]
      · rw [if_neg (by omega), if_neg h1, hp, Option.bind_some, List.length_map]
        by_cases h2 : 64 < (partsL [] s.data.toList).length
        · rw [if_pos (by omega), if_pos (.inl h2)]
        · rw [if_neg (by omega), hn]
          congr 1
          by_cases h3 : ((partsL [] s.data.toList).map toB).any (fun x => decide (63 < x.size)) = true
          · rw [if_pos h3, if_pos (.inr h3)]
          · rw [if_neg h3, if_neg (fun h => h.elim h2 h3)]
  unfold PPack.shaleref16_Split.f splitQ
  rw [toL]
  by_cases h0 : s.data.toList = []
  · rw [if_pos h0, if_neg (by rw [h0]; simp)]
  · have hpos : 0 < s.size := by
      rw [← hlen]
      exact List.length_pos_iff.2 h0
    obtain ⟨c, hc1, hc2, _⟩ := bt_lt (s := s) (i := 0) hpos
    rw [List.drop_zero] at hc1
    have hc3 : bt s 0 = (c.toNat : Int) := hc2
    rw [if_neg h0, if_pos (by omega), hc3, hnm, hc1]
    by_cases h47 : c = 47
    · subst h47
      rw [if_pos (show (((47 : UInt8).toNat : Int)) = 47 from rfl), Option.bind_some, if_pos (by simp)]
    · rw [if_neg (fun h => h47 (UInt8.toNat_inj.mp (by simpa using (by omega : c.toNat = 47)))), if_neg (by simpa using h47)]
theorem eclean (s : ByteArray) (hs : s.size ≤ 1048575) (k : Nat) (hk : 2 * 1048576 + 8 ≤ k) : PPack.shaleref16_Clean.f k s = some (⟨(cleanQ s.data.toList).1.toArray⟩, (cleanQ s.data.toList).2) := by
  unfold PPack.shaleref16_Clean.f cleanQ
  rw [esplit s hs k hk, Option.bind_some]
  by_cases h : (splitQ s.data.toList).2 = 0
  · have hg := splitQ_good h
    have hd := sum_drop (splitQ s.data.toList).1 isUp
    have hdl : ((splitQ s.data.toList).1.dropWhile isUp).length ≤ (splitQ s.data.toList).1.length := (List.dropWhile_sublist _).length_le
    rw [if_pos h, if_pos h]
    unfold PPack.shaleref16_trimmed.f
    rw [etrim_l0 _ k (by omega), Option.bind_some, etog _ (by omega) (by omega) k (by omega), Option.bind_some]
  · rw [if_neg h, if_neg h]
theorem enames_any (s : ByteArray) (hs : s.size ≤ 1048575) (k : Nat) (hk : 2 * 1048576 + 9 ≤ k) :
    PPack.shaleref18_names.f k s = some (match namesP s.data.toList with | some l => (l, true) | none => ([], false)) := by
  obtain ⟨k, rfl⟩ : ∃ m, k = m + 1 := ⟨k - 1, by omega⟩
  unfold PPack.shaleref18_names.f namesP
  rw [eclean s hs (k + 1) (by omega), Option.bind_some]
  by_cases h : (cleanQ s.data.toList).2 = 0
  · rw [if_pos h, PPack.shaleref18_names.j0]
    by_cases h2 : (cleanQ s.data.toList).1 = s.data.toList
    · have h3 : ((⟨(cleanQ s.data.toList).1.toArray⟩ : ByteArray).toList != s.toList) = false := by
        rw [toL, toL, h2]; simp
      have h4 : (splitQ s.data.toList).2 = 0 := by
        unfold cleanQ at h
        split at h
        · assumption
        · rename_i h5; exact absurd h h5
      have hg := splitQ_good h4
      have hn := enames18_l0 (splitQ s.data.toList).1 (by omega) (splitQ s.data.toList).1.length k 0 (by omega) (by omega)
      rw [List.drop_zero] at hn
      simp only [Int.ofNat_zero, Int.natCast_zero] at hn
      rw [h3, if_neg (by decide), esplit s hs k (by omega), Option.bind_some, hn]
      by_cases h5 : (splitQ s.data.toList).1.any isUp = true
      · rw [if_pos h5, if_neg (fun e => by rw [e.2.2] at h5; cases h5)]
      · rw [if_neg h5, if_pos ⟨h, h2, by simpa using h5⟩]
    · have h3 : ((⟨(cleanQ s.data.toList).1.toArray⟩ : ByteArray).toList != s.toList) = true := by
        rw [toL, toL]; simpa using h2
      rw [h3, if_pos rfl, if_neg (fun e => h2 e.2.1)]
  · rw [if_neg h, PPack.shaleref18_names.j0, if_pos rfl, if_neg (fun e => h e.1)]
end Go.Proofs.YtlnaeppbhjmocaaDoor
namespace Go.Proofs.YtlnaeppbhjmocaaDoor.Pfollows
open Go.RowKit Go.Proofs.YtlnaeppbhjmocaaDoorW.PrintWords Go.Proofs.YtlnaeppbhjmocaaDoorW.PrintLast Go.Proofs.YtlnaeppbhjmocaaDoorW.PrintMore
attribute [local go_sem] max2_int min2_int max_two min_two max_three min_three max_four min_four   -- for this text's walks alone
set_option linter.unusedVariables false
set_option linter.unusedSimpArgs false

/-! ### parcel_follows: function 48 -/
mutual
def parcel_follows.j1 : Nat → List ByteArray → List ByteArray → Int → Option (Int × Bool)
  | 0, _, _, _ => none
  | k + 1, x0, x1, x6 => if x6 = (x1.length : Int) then (some (x6, false)) else (if x6 = (x0.length : Int) then (some (x6, true)) else (if 0 ≤ x6 then (if x6 < (x1.length : Int) then (if x6 < (x0.length : Int) then (some (x6, (Op.bytesLess ((rdOf ByteArray.empty x0 x6).toList) ((rdOf ByteArray.empty x1 x6).toList)))) else (none)) else (none)) else (none)))
def parcel_follows.l0 : Nat → List ByteArray → List ByteArray → Int → Option (Int × Bool)
  | 0, _, _, _ => none
  | k + 1, x0, x1, x6 => if x6 < (x0.length : Int) then (if x6 < (x1.length : Int) then (if 0 ≤ x6 then (if (rdOf ByteArray.empty x0 x6).toList = (rdOf ByteArray.empty x1 x6).toList then (parcel_follows.l0 k x0 x1 (wrap64 (x6 + 1))) else (parcel_follows.j1 k x0 x1 x6)) else (none)) else (parcel_follows.j1 k x0 x1 x6)) else (parcel_follows.j1 k x0 x1 x6)
end
def parcel_follows.f (k : Nat) (l0 : List ByteArray) (l1 : List ByteArray) : Option (Int × Bool) := parcel_follows.l0 k l0 l1 0
theorem parcel_follows.mono_l : ∀ k, (∀ y0 y1 y2, LeO (parcel_follows.j1 k y0 y1 y2) (parcel_follows.j1 (k + 1) y0 y1 y2)) ∧ (∀ y0 y1 y2, LeO (parcel_follows.l0 k y0 y1 y2) (parcel_follows.l0 (k + 1) y0 y1 y2))
  | 0 => ⟨fun _ _ _ r h => by simp [parcel_follows.j1] at h, fun _ _ _ r h => by simp [parcel_follows.l0] at h⟩
  | k + 1 => by
    obtain ⟨ih0, ih1⟩ := parcel_follows.mono_l k
    refine ⟨?_, ?_⟩
    · intro y0 y1 y2
      unfold parcel_follows.j1
      repeat' first
      | (with_reducible exact ih0 _ _ _)
      | (with_reducible exact ih1 _ _ _)
      | (with_reducible exact LeO.refl _)
      | (with_reducible exact LeO.none _)
      | (with_reducible refine LeO.ite ?_ ?_)
      | (with_reducible refine LeO.bind ?_ (fun _ => ?_))
      | exact ih0 _ _ _
      | exact ih1 _ _ _
      | exact LeO.none _
      | refine LeO.ite ?_ ?_
      | refine LeO.bind ?_ (fun _ => ?_)
    · intro y0 y1 y2
      unfold parcel_follows.l0
      repeat' first
      | (with_reducible exact ih0 _ _ _)
      | (with_reducible exact ih1 _ _ _)
      | (with_reducible exact LeO.refl _)
      | (with_reducible exact LeO.none _)
      | (with_reducible refine LeO.ite ?_ ?_)
      | (with_reducible refine LeO.bind ?_ (fun _ => ?_))
      | exact ih0 _ _ _
      | exact ih1 _ _ _
      | exact LeO.none _
      | refine LeO.ite ?_ ?_
      | refine LeO.bind ?_ (fun _ => ?_)
theorem parcel_follows.mono : ∀ a0 a1 k, LeO (parcel_follows.f k a0 a1) (parcel_follows.f (k + 1) a0 a1) := by
  intro a0 a1 k
  obtain ⟨ih0, ih1⟩ := parcel_follows.mono_l k
  unfold parcel_follows.f
  repeat' first
      | (with_reducible exact ih0 _ _ _)
      | (with_reducible exact ih1 _ _ _)
      | (with_reducible exact LeO.refl _)
      | (with_reducible exact LeO.none _)
      | (with_reducible refine LeO.ite ?_ ?_)
      | (with_reducible refine LeO.bind ?_ (fun _ => ?_))
      | exact ih0 _ _ _
      | exact ih1 _ _ _
      | exact LeO.none _
      | refine LeO.ite ?_ ?_
      | refine LeO.bind ?_ (fun _ => ?_)
theorem bl_eq2 : ∀ (x y : List UInt8), Op.bytesLess x y = decide (x < y)
  | [], [] => by simp [Op.bytesLess]
  | [], _ :: _ => by simp [Op.bytesLess]
  | _ :: _, [] => by simp [Op.bytesLess]
  | a :: x, b :: y => by
    rw [Op.bytesLess, bl_eq2 x y, Bool.eq_iff_iff]
    simp [List.cons_lt_cons_iff]
theorem bl_tot : ∀ x y : List UInt8, Op.bytesLess x y = false → x ≠ y → Op.bytesLess y x = true
  | [], [], _, h => absurd rfl h
  | [], _ :: _, h, _ => by simp [Op.bytesLess] at h
  | _ :: _, [], _, _ => by simp [Op.bytesLess]
  | a :: x, b :: y, h, hne => by
    simp only [Op.bytesLess, Bool.or_eq_false_iff, decide_eq_false_iff_not, Bool.and_eq_false_iff, beq_eq_false_iff_ne] at h
    simp only [Op.bytesLess, Bool.or_eq_true, decide_eq_true_eq, Bool.and_eq_true, beq_iff_eq]
    by_cases e : a = b
    · right
      refine ⟨e.symm, bl_tot x y ?_ (fun e2 => hne (by rw [e, e2]))⟩
      rcases h.2 with h2 | h2
      · exact absurd e h2
      · exact h2
    · left
      exact UInt8.lt_of_le_of_ne (UInt8.not_lt.mp h.1) (fun e2 => e e2.symm)
theorem gt_flip (a b : ByteArray) : (!(Op.bytesLess a.toList b.toList || a.toList == b.toList)) = Op.bytesLess b.toList a.toList := by
  rw [Bool.eq_iff_iff]
  simp only [Bool.not_eq_true', Bool.or_eq_false_iff, beq_eq_false_iff_ne]
  constructor
  · rintro ⟨h1, h2⟩
    exact bl_tot _ _ h1 h2
  · intro h
    rw [bl_eq2, decide_eq_true_eq] at h
    rw [bl_eq2, decide_eq_false_iff_not]
    exact ⟨List.lt_asymm h, fun e => List.lt_irrefl _ (by rw [e] at h; exact h)⟩
set_option maxHeartbeats 8000000 in
set_option maxRecDepth 100000 in
theorem parcel_follows.calls (k : Nat) (A0 : Option Addr) (c0 : Nat) (l0 : List ByteArray) (A1 : Option Addr) (c1 : Nat) (l1 : List ByteArray) (r1 : Int) (r2 : Bool) (w : World) (hr0 : Kd.C Kd.string w A0 l0.length l0) (hc0 : l0.length ≤ c0) (hr1 : Kd.C Kd.string w A1 l1.length l1) (hc1 : l1.length ≤ c1) (h : parcel_follows.f k l0 l1 = some (r1, r2)) :
    Calls Tryd.prog 48 #[.slice A0 l0.length c0, .slice A1 l1.length c1] w fun e w' => e = .returned (.tuple #[.int .i64 r1, .bool r2]) ∧ Drawn0 w w' := by
  have HR0 := Aside0.mk hr0
  have HC0 := Aside0.mk hc0
  clear hr0 hc0
  have HR1 := Aside0.mk hr1
  have HC1 := Aside0.mk hc1
  clear hr1 hc1
  have H : (parcel_follows.l0 k l0 l1 0) = some (r1, r2) := h
  clear h
  have HC3 := Aside0.mk H
  clear H
  go_enter Tryd.func48, Tryd.ntmps48
  go_upto_block 0 with (fail)
  repeat (go_quiet (fail); go_upto_block 0 with (fail))
  go_cut [6] (fun v6 wc => ∃ (kq : Nat) (x6_2 : Int), v6 = .int .i64 x6_2 ∧ Aside0 (parcel_follows.j1 kq l0 l1 x6_2 = some (r1, r2)) ∧ Aside0 (kq ≤ k) ∧ Drawn0 w wc)
  case first =>
    have H := HC3.out
    clear HC3
    have H' := Aside0.mk H
    clear H
    go_wp2
    repeat (go_quiet (fail); try go_wp2)
    go_loopg [6] k (fun kq v6 w' => ∃ (x6_1 : Int), v6 = .int .i64 x6_1 ∧ Aside0 (parcel_follows.l0 kq l0 l1 x6_1 = some (r1, r2)) ∧ Aside0 (kq ≤ k) ∧ Drawn0 w w')
    case atStart => exact ⟨(0), (by first | rfl | (simp; done) | (simp [*]; done)), H', ⟨Nat.le_refl _⟩, by repeat (first | exact Drawn0.refl _ | apply Drawn0.step)⟩
    case round =>
      clear H'
      try clear c1
      try clear p2
      obtain ⟨x6_1, rfl, HA, HK1, ⟨m1, rfl⟩⟩ := hrel
      cases gk with
      | zero => exact absurd HA.out (by simp [parcel_follows.l0])
      | succ k1 =>
        have H := HA.out
        clear HA
        simp only [parcel_follows.l0] at H
        by_cases c4 : x6_1 < (l0.length : Int)
        · rw [if_pos c4] at H
          have c4b0 : decide (x6_1 < (l0.length : Int)) = true := decide_eq_true c4
          clear c4
          (first | rw [c4b0] | (simp only [i64_w, i32_w]; rw [c4b0]) | skip)
          by_cases c5 : x6_1 < (l1.length : Int)
          · rw [if_pos c5] at H
            have c5b0 : decide (x6_1 < (l1.length : Int)) = true := decide_eq_true c5
            clear c5
            by_cases c6 : 0 ≤ x6_1
            · rw [if_pos c6] at H
              have c6b0 : decide (0 ≤ x6_1) = true := decide_eq_true c6
              clear c6
              by_cases c7 : (rdOf ByteArray.empty l0 x6_1).toList = (rdOf ByteArray.empty l1 x6_1).toList
              · rw [if_pos c7] at H
                have c7b0 : ((rdOf ByteArray.empty l0 x6_1).toList == (rdOf ByteArray.empty l1 x6_1).toList) = true := beq_iff_eq.mpr c7
                have c7b1 : ((rdOf ByteArray.empty l0 x6_1).toList != (rdOf ByteArray.empty l1 x6_1).toList) = false := bne_eq_false_iff_eq.mpr c7
                clear c7
                have H' := Aside0.mk H
                clear H
                have p101 : 0 ≤ (x6_1 : Int) := of_decide_eq_true (by first | (with_reducible assumption) | assumption)
                have q101 : x6_1 < (l0.length : Int) := of_decide_eq_true (by first | (with_reducible assumption) | assumption)
                obtain ⟨ad101, e101, hx101_0⟩ := Kd.at_string HR0.out x6_1 p101 q101
                cases e101
                replace p101 := eq_true p101
                replace q101 := eq_true q101
                have p102 : 0 ≤ (x6_1 : Int) := of_decide_eq_true (by first | (with_reducible assumption) | assumption)
                have q102 : x6_1 < (l1.length : Int) := of_decide_eq_true (by first | (with_reducible assumption) | assumption)
                obtain ⟨ad102, e102, hx102_0⟩ := Kd.at_string HR1.out x6_1 p102 q102
                cases e102
                replace p102 := eq_true p102
                replace q102 := eq_true q102
                go_wp2
                repeat (go_quiet (fail); try go_wp2)
                go_roundg k1
                case measure => have := HK1.out; omega
                case rel => exact ⟨(wrap64 (x6_1 + 1)), (by first | rfl | (simp; done) | (simp [*]; done)), H', ⟨by have := HK1.out; omega⟩, by repeat (first | exact Drawn0.refl _ | apply Drawn0.step)⟩
              · rw [if_neg c7] at H
                have c7b0 : ((rdOf ByteArray.empty l0 x6_1).toList == (rdOf ByteArray.empty l1 x6_1).toList) = false := beq_eq_false_iff_ne.mpr c7
                have c7b1 : ((rdOf ByteArray.empty l0 x6_1).toList != (rdOf ByteArray.empty l1 x6_1).toList) = true := bne_iff_ne.mpr c7
                have H' := Aside0.mk H
                clear H
                have p101 : 0 ≤ (x6_1 : Int) := of_decide_eq_true (by first | (with_reducible assumption) | assumption)
                have q101 : x6_1 < (l0.length : Int) := of_decide_eq_true (by first | (with_reducible assumption) | assumption)
                obtain ⟨ad101, e101, hx101_0⟩ := Kd.at_string HR0.out x6_1 p101 q101
                cases e101
                replace p101 := eq_true p101
                replace q101 := eq_true q101
                have p102 : 0 ≤ (x6_1 : Int) := of_decide_eq_true (by first | (with_reducible assumption) | assumption)
                have q102 : x6_1 < (l1.length : Int) := of_decide_eq_true (by first | (with_reducible assumption) | assumption)
                obtain ⟨ad102, e102, hx102_0⟩ := Kd.at_string HR1.out x6_1 p102 q102
                cases e102
                replace p102 := eq_true p102
                replace q102 := eq_true q102
                go_wp2
                repeat (go_quiet (fail); try go_wp2)
                go_meet
                case rel => exact ⟨_, (x6_1), (by first | rfl | (simp; done) | (simp [*]; done)), H', ⟨by have := HK1.out; first | omega | exact Nat.le_refl _⟩, by repeat (first | exact Drawn0.refl _ | apply Drawn0.step)⟩
            · rw [if_neg c6] at H
              exact absurd H (by simp)
          · rw [if_neg c5] at H
            have c5b0 : decide (x6_1 < (l1.length : Int)) = false := decide_eq_false c5
            clear c5
            have H' := Aside0.mk H
            clear H
            go_wp2
            repeat (go_quiet (fail); try go_wp2)
            go_meet
            case rel => exact ⟨_, (x6_1), (by first | rfl | (simp; done) | (simp [*]; done)), H', ⟨by have := HK1.out; first | omega | exact Nat.le_refl _⟩, by repeat (first | exact Drawn0.refl _ | apply Drawn0.step)⟩
        · rw [if_neg c4] at H
          have c4b0 : decide (x6_1 < (l0.length : Int)) = false := decide_eq_false c4
          clear c4
          (first | rw [c4b0] | (simp only [i64_w, i32_w]; rw [c4b0]) | skip)
          have H' := Aside0.mk H
          clear H
          go_wp2
          repeat (go_quiet (fail); try go_wp2)
          go_meet
          case rel => exact ⟨_, (x6_1), (by first | rfl | (simp; done) | (simp [*]; done)), H', ⟨by have := HK1.out; first | omega | exact Nat.le_refl _⟩, by repeat (first | exact Drawn0.refl _ | apply Drawn0.step)⟩
  case rest =>
    clear HC3
    try clear c1
    try clear p1
    try clear q1
    try clear hx1
    try clear p2
    try clear c4
    try clear c4b0
    try clear c5
    try clear c5b0
    try clear c6
    try clear c6b0
    try clear p6
    try clear c7
    try clear c7b0
    try clear c7b1
    try clear hx101_0
    try clear hx102_0
    try clear p101
    try clear p102
    try clear p2
    try clear q101
    try clear q102
    obtain ⟨kq, x6_2, rfl, HA, HJ2, ⟨mc2, rfl⟩⟩ := hcut
    cases kq with
    | zero => exact absurd HA.out (by simp [parcel_follows.j1])
    | succ kj2 =>
      have H := HA.out
      clear HA
      simp only [parcel_follows.j1] at H
      by_cases c8 : x6_2 = (l1.length : Int)
      · rw [if_pos c8] at H
        have c8b0 : (x6_2 == (l1.length : Int)) = true := beq_iff_eq.mpr c8
        have c8b1 : (x6_2 != (l1.length : Int)) = false := bne_eq_false_iff_eq.mpr c8
        clear c8
        simp only [Option.some.injEq, Prod.mk.injEq] at H
        obtain ⟨rfl, rfl⟩ := H
        go_wp2
        repeat (go_quiet (fail); try go_wp2)
        go_ret2
        exact ⟨by first | rfl | (simp; done) | (simp [*]; done), by repeat (first | exact Drawn0.refl _ | apply Drawn0.step)⟩
      · rw [if_neg c8] at H
        have c8b0 : (x6_2 == (l1.length : Int)) = false := beq_eq_false_iff_ne.mpr c8
        have c8b1 : (x6_2 != (l1.length : Int)) = true := bne_iff_ne.mpr c8
        by_cases c9 : x6_2 = (l0.length : Int)
        · rw [if_pos c9] at H
          have c9b0 : (x6_2 == (l0.length : Int)) = true := beq_iff_eq.mpr c9
          have c9b1 : (x6_2 != (l0.length : Int)) = false := bne_eq_false_iff_eq.mpr c9
          clear c9
          simp only [Option.some.injEq, Prod.mk.injEq] at H
          obtain ⟨rfl, rfl⟩ := H
          go_wp2
          repeat (go_quiet (fail); try go_wp2)
          go_ret2
          exact ⟨by first | rfl | (simp; done) | (simp [*]; done), by repeat (first | exact Drawn0.refl _ | apply Drawn0.step)⟩
        · rw [if_neg c9] at H
          have c9b0 : (x6_2 == (l0.length : Int)) = false := beq_eq_false_iff_ne.mpr c9
          have c9b1 : (x6_2 != (l0.length : Int)) = true := bne_iff_ne.mpr c9
          by_cases c10 : 0 ≤ x6_2
          · rw [if_pos c10] at H
            have c10b0 : decide (0 ≤ x6_2) = true := decide_eq_true c10
            clear c10
            by_cases c11 : x6_2 < (l1.length : Int)
            · rw [if_pos c11] at H
              have c11b0 : decide (x6_2 < (l1.length : Int)) = true := decide_eq_true c11
              clear c11
              by_cases c12 : x6_2 < (l0.length : Int)
              · rw [if_pos c12] at H
                have c12b0 : decide (x6_2 < (l0.length : Int)) = true := decide_eq_true c12
                clear c12
                simp only [Option.some.injEq, Prod.mk.injEq] at H
                obtain ⟨rfl, rfl⟩ := H
                have p103 : 0 ≤ (x6_2 : Int) := of_decide_eq_true (by first | (with_reducible assumption) | assumption)
                have q103 : x6_2 < (l1.length : Int) := of_decide_eq_true (by first | (with_reducible assumption) | assumption)
                obtain ⟨ad103, e103, hx103_0⟩ := Kd.at_string HR1.out x6_2 p103 q103
                cases e103
                replace p103 := eq_true p103
                replace q103 := eq_true q103
                have p104 : 0 ≤ (x6_2 : Int) := of_decide_eq_true (by first | (with_reducible assumption) | assumption)
                have q104 : x6_2 < (l0.length : Int) := of_decide_eq_true (by first | (with_reducible assumption) | assumption)
                obtain ⟨ad104, e104, hx104_0⟩ := Kd.at_string HR0.out x6_2 p104 q104
                cases e104
                replace p104 := eq_true p104
                replace q104 := eq_true q104
                have hgf := gt_flip (rdOf ByteArray.empty l1 x6_2) (rdOf ByteArray.empty l0 x6_2)
                go_wp2
                repeat (go_quiet (fail); try go_wp2)
                go_ret2
                exact ⟨by first | rfl | (simp; done) | (simp [*]; done), by repeat (first | exact Drawn0.refl _ | apply Drawn0.step)⟩
              · rw [if_neg c12] at H
                exact absurd H (by simp)
            · rw [if_neg c11] at H
              exact absurd H (by simp)
          · rw [if_neg c10] at H
            exact absurd H (by simp)

end Go.Proofs.YtlnaeppbhjmocaaDoor.Pfollows
set_option linter.unusedSimpArgs false
set_option linter.unusedVariables false
namespace Go.Proofs.YtlnaeppbhjmocaaDoor
open Go.RowKit Go.Proofs Go.Proofs.YtlnaeppbhjmocaaDoorW.PrintWords Go.Proofs.YtlnaeppbhjmocaaDoorW.PrintLast Go.Proofs.YtlnaeppbhjmocaaDoorW.PrintMore

theorem SRow.toC {w : World} {A : Option Addr} {L : List ByteArray} (h : SRow w A L) (hn : L.length ≤ 1099511627776) : Kd.C Kd.string w A L.length L := by
  refine ⟨rfl, by omega, fun h0 => ?_⟩
  obtain ⟨g, hA, _⟩ := h 0 h0
  refine ⟨_, hA, fun j p hj => ?_⟩
  refine ⟨[.string p], rfl, rfl, fun i u hu => ?_⟩
  have hi : i < 1 := (List.getElem?_eq_some_iff.1 hu).1
  obtain rfl : i = 0 := by omega
  simp only [List.getElem?_cons_zero, Option.some.injEq] at hu
  subst hu
  have hsz : Kd.string.sz = 1 := rfl
  rw [hsz, Lib.add_plain, Nat.mul_one, Nat.add_zero, Nat.zero_add]
  obtain ⟨hj1, hj2⟩ := List.getElem?_eq_some_iff.1 hj
  obtain ⟨g', hA', hc⟩ := h j hj1
  rw [hA] at hA'
  injection hA' with hA'
  injection hA' with hA'
  rw [hA', hc, hj2]
theorem bytes_eq (a b : ByteArray) : (a.toList = b.toList) ↔ a = b := by
  rw [toL, toL]; exact ⟨bs_ext, fun e => by rw [e]⟩
theorem follows_l0 (a b : List ByteArray) (ha : a.length ≤ 1048576) (hb : b.length ≤ 1048576) : ∀ (d k i : Nat), i + d = a.length → d + 2 ≤ k → i ≤ b.length →
    Pfollows.parcel_follows.l0 k a b (i : Int) = some (((i + sharedX (a.drop i) (b.drop i) : Nat) : Int), behindX ltB (a.drop i) (b.drop i)) := by
  intro d
  induction d with
  | zero =>
    intro k i h hk hi
    obtain ⟨k, rfl⟩ : ∃ m, k = m + 2 := ⟨k - 2, by omega⟩
    rw [Pfollows.parcel_follows.l0, if_neg (by omega), Pfollows.parcel_follows.j1, List.drop_eq_nil_of_le (show a.length ≤ i by omega)]
    by_cases hlt : i < b.length
    · rw [if_neg (by omega), if_pos (by omega), edrop b i hlt]; rfl
    · rw [if_pos (by omega), List.drop_eq_nil_of_le (by omega)]; rfl
  | succ d ih =>
    intro k i h hk hi
    obtain ⟨k, rfl⟩ : ∃ m, k = m + 2 := ⟨k - 2, by omega⟩
    rw [Pfollows.parcel_follows.l0, if_pos (by omega), edrop a i (by omega)]
    by_cases hlt : i < b.length
    · have w1 : wrap64 ((i : Int) + 1) = ((i + 1 : Nat) : Int) := by rw [wr64 ⟨by omega, by omega⟩]; omega
      rw [if_pos (by omega), if_pos (by omega), rdOf_nat a i (by omega), rdOf_nat b i hlt, edrop b i hlt, behindX, sharedX, w1]
      by_cases he : a[i] = b[i]
      · rw [if_pos ((bytes_eq _ _).2 he), if_pos he, if_pos he, ih (k + 1) (i + 1) (by omega) (by omega) (by omega)]
        congr 3
        omega
      · rw [if_neg (fun e => he ((bytes_eq _ _).1 e)), if_neg he, if_neg he, Pfollows.parcel_follows.j1, if_neg (by omega), if_neg (by omega), if_pos (by omega), if_pos (by omega), if_pos (by omega), rdOf_nat a i (by omega), rdOf_nat b i hlt]
        rfl
    · rw [if_neg (by omega), Pfollows.parcel_follows.j1, if_pos (by omega), List.drop_eq_nil_of_le (show b.length ≤ i by omega), behindX]
      rfl
theorem follows_any (A1 A2 : Option Addr) (c1 c2 : Nat) (a b : List ByteArray) (ha : a.length ≤ 1048576) (hb : b.length ≤ 1048576) (w : World) (hw : Ok w) (h1 : SRow w A1 a) (hc1 : a.length ≤ c1) (h2 : SRow w A2 b) (hc2 : b.length ≤ c2) :
    Calls Tryd.prog 48 #[.slice A1 a.length c1, .slice A2 b.length c2] w fun e w' => e = .returned (.tuple #[.int .i64 ((sharedX a b : Nat) : Int), .bool (behindX ltB a b)]) ∧ Fr w w' := by
  have hf := follows_l0 a b ha hb a.length (a.length + 2) 0 (by omega) (by omega) (Nat.zero_le _)
  rw [List.drop_zero, List.drop_zero, Nat.zero_add] at hf
  exact (Pfollows.parcel_follows.calls (a.length + 2) A1 c1 a A2 c2 b _ _ w (h1.toC (by omega)) hc1 (h2.toC (by omega)) hc2 hf).mono fun e w' ⟨he, hd⟩ => ⟨he, Fr.of hw hd.below⟩
end Go.Proofs.YtlnaeppbhjmocaaDoor
