/- parcel.Pack by its contract: packX. -/
import Derived.Test.YtlnaeppbhjmocaaDoorV6
import Derived.Sort.CutIn
import Derived.ArgAppend
import Derived.Test.YtlnaeppbhjmocaaDoorDFollowW
set_option linter.unusedSectionVars false
set_option linter.unnecessarySimpa false
set_option linter.unusedSimpArgs false
set_option linter.unusedVariables false
set_option linter.unusedSimpArgs false
set_option linter.unusedVariables false
namespace Go.Proofs.YtlnaeppbhjmocaaDoor
open Go.RowKit Go.Proofs Go.Shelf
attribute [local go_sem] Oper.semAt_some

set_option maxRecDepth 100000 in
set_option maxHeartbeats 3200000 in
theorem piece_any (B : Nat) (A : Option Addr) (c : Nat) (xs : List Int) (l : Lf) (da : Option Addr) (dd : Nat) (ns : List ByteArray) (NA : Option Addr) (nc : Nat) (w : World) (hw : Ok w) (hO : OwnB w B (.slice A xs.length c) xs) (hB : B ≤ w.heap.size) (hB0 : 0 < B)
    (hD : BytesAt w da l.data) (hdd : l.data.length ≤ dd) (hdB : ∀ a, datA l.data da = some a → a.block < B) (hdn : da = none → dd = 0) (hN : SRowO w NA ns) (hne : ns ≠ []) (h64 : ns.length ≤ 64) (hnc : ns.length ≤ nc) (hok : okL l = true) (hst : 0 ≤ l.stamp ∧ l.stamp ≤ 18446744073709551615)
    (hlast : (ns.getLastD ⟨#[]⟩).size ≤ 63) (hx : xs.length ≤ 1073741824) :
    Calls Tryd.prog 49 #[.slice A xs.length c, .agg #[.string l.path, .int .i64 l.ty, .int .i64 l.mode, .int .u64 l.stamp, .slice da l.data.length dd, .string l.tgt], .slice NA ns.length nc] w fun e w' => ∃ a d, e = .returned (.slice a (xs ++ pieceB l ns).length d) ∧ OwnB w' B (.slice a (xs ++ pieceB l ns).length d) (xs ++ pieceB l ns) ∧ w.grownBy w' (Value.slice A xs.length c).ownBlock ∧ Ownish w (Value.slice A xs.length c).ownBlock (Value.slice a (xs ++ pieceB l ns).length d).ownBlock := by
  obtain ⟨m, hm⟩ : ∃ m, ns.length = m := ⟨_, rfl⟩
  obtain ⟨k, hk⟩ : ∃ k, m = k + 1 := ⟨m - 1, by have := List.length_pos_iff.mpr hne; omega⟩
  obtain ⟨nm, hnm⟩ : ∃ nm, ns.getLastD ⟨#[]⟩ = nm := ⟨_, rfl⟩
  rw [hnm] at hlast
  obtain ⟨ng, no, hNA, hng, hcells⟩ := hN hne
  have hcell := hcells k (by omega)
  have hnk : ns[k]'(by omega) = nm := by
    rw [← hnm, List.getLastD_eq_getLast?, List.getLast?_eq_getElem?, show ns.length - 1 = k by omega, List.getElem?_eq_getElem (by omega)]
    rfl
  rw [hnk] at hcell
  subst hNA
  rw [hm] at hnc ⊢
  obtain ⟨R, hR⟩ : ∃ R, pieceB l ns = R := ⟨_, rfl⟩
  rw [hR]
  have HR := Lib.hid hR
  obtain ⟨Z, hZ⟩ : ∃ Z, xs ++ R = Z := ⟨_, rfl⟩
  rw [hZ]
  have HZ := Lib.hid hZ
  clear hZ
  obtain ⟨t1, t3, m0, m1, dl, dnil, gnil, gok⟩ := okL_ty hok
  have HT := Lib.hid (And.intro dnil (And.intro gnil gok))
  clear dnil gnil gok
  have hro : Fence.wide.round = none := rfl
  obtain ⟨w1, g1, hg1, hw1, f1, hz1, H1⟩ := boxedN hw #[.slice A xs.length c] 22
  obtain ⟨w2, g2, hg2, hw2, f2, hz2, H2⟩ := boxedN f1.ok #[.string l.path, .int .i64 l.ty, .int .i64 l.mode, .int .u64 l.stamp, .slice da l.data.length dd, .string l.tgt] 45
  have f12 := f1.trans f2
  have P2 : PcS w w2 B g1 g2 (Value.slice A xs.length c).ownBlock #[.string l.path, .int .i64 l.ty, .int .i64 l.mode, .int .u64 l.stamp, .slice da l.data.length dd, .string l.tgt] (.slice A xs.length c) xs :=
    ⟨Boxed.kept H1 (fr_none f2) (by simp), OwnB.fr hO f12, grown_none (fr_none f12), .inl rfl, H2, by omega, by omega, by omega⟩
  have hcell2 := f12.cell hcell
  obtain ⟨g3, hg3⟩ : ∃ g, w2.heap.size = g := ⟨_, rfl⟩
  obtain ⟨w3, v4, w4, hw3, hap, O4, q4, i4⟩ := append_lit 22 B A c xs [(k : Int), l.ty] w2 P2.own (by simp; omega) (by have := f12.size; omega)
  obtain ⟨y4, hy4⟩ : ∃ y, xs ++ [(k : Int), l.ty] = y := ⟨_, rfl⟩
  have hl4 : y4.length = xs.length + 2 := by rw [← hy4]; simp
  rw [hy4] at O4
  have HY4 := Lib.hid hy4
  have HL4 := Lib.hid hl4
  clear hy4 hl4
  rw [hg3] at hap
  simp only [List.map_cons, List.map_nil, List.length_cons, List.length_nil, Nat.zero_add, Nat.reduceAdd] at hw3 hap
  obtain ⟨w5, hw5, P5⟩ := P2.step q4 O4 i4
  obtain ⟨a4, d4, rfl⟩ := O4.form
  have e1 : IntKind.i64.wrap ((m : Int) - 1) = (k : Int) := by rw [IntWalk.i64_in _ ⟨by omega, by omega⟩]; omega
  have e2 : IntKind.u8.wrap (k : Int) = (k : Int) := by rw [IntKind.wrap_u8]; omega
  have e3 : IntKind.u8.wrap l.ty = l.ty := by rw [IntKind.wrap_u8]; omega
  have s1 : (0 : Int) ≤ (k : Int) := by omega
  have s2 : (k : Int) < (m : Int) := by omega
  have c0 : w2.cell? ⟨g1, 0, none⟩ = some (.slice A xs.length c) := P2.box.cell
  obtain ⟨b0, b1, b2, b3, b4, b5⟩ := blk6 P2.leaf
  have z0 := Boxed.frozen (Boxed.kept P2.box q4 (own_ne3 P2.own P2.box (by decide)))
  have z1 := Boxed.cell (Boxed.kept P2.box q4 (own_ne3 P2.own P2.box (by decide)))
  refine (callsIn_wide (n := 9)).1 ?_
  refine callsIn_of_wp_marks Tryd.func49 rfl trivial ?_ hro
  simp only [Tryd.ntmps49, List.size_toArray, List.length_cons, List.length_nil, Nat.reduceAdd, Nat.reduceSub, Array.replicate_succ, Array.replicate_zero, List.push_toArray, List.append_toArray, List.nil_append, List.cons_append]
  refine wpIn_wide.2 ?_
  go_upto_region 3 with (first
    | (at_builtin; refine wpList_append_run rfl _ _ 22 22 rfl (by simp [Act.eval]) (by simp [Act.eval]) hap ?_))
  clear hap hw3 hw5 q4 i4 O4 c0 b0 b1 b2 b3 b4 b5 z0 z1 e1 e2 e3 s1 s2 P2 hw1 hw2 H1 H2 hcell hcell2 hcells
  have P5d := P5.more (show w5.grownBy w5.drew none from ⟨rfl, rfl, rfl, Nat.le_refl _, fun _ _ _ => rfl⟩) (fun r e => by cases e)
  have HX := Lib.hid hx
  have HFW := Lib.hid f12
  clear hx f12 f1 f2
  have okg : ∀ W, w.grownBy W (Value.slice A xs.length c).ownBlock → Ok W := fun W g => ok_keep hw (g.block 0 (by omega) (fun e => by
    have := (World.ownsRow.lt hO 0 e.symm).1
    omega))
  have HOK := Lib.hid okg
  clear okg
  have e4 : IntKind.u64.wrap l.mode = l.mode := u64_in ⟨by omega, by omega⟩
  obtain ⟨b0, b1, b2, b3, b4, b5⟩ := blk6 P5d.leaf
  have c0 := P5d.box.cell
  refine Reg.wp_region_late (fun w' => w'.cell? ⟨g1, 0, none⟩ = some (.slice a4 y4.length d4) ∧ w'.cell? ⟨g2, 2, none⟩ = some (.int .i64 l.mode) ∧ w'.cell? ⟨g2, 3, none⟩ = some (.int .u64 l.stamp)) 8 [0, 1, 2, 3, 5, 6] [4, 7, 8] (by kernel_rfl) (by kernel_rfl) ⟨c0, b2, b3⟩ ?_
  iterate 6
    refine Reg.wpLateT_step (v := ?_) rfl ?_ (fun w' hS => ?_) ?_
    rotate_left
    · simp [Region.wanted]
    · obtain ⟨s1, s2, s3⟩ := hS
      go_simp
      try (first | rfl | exact ⟨rfl, rfl⟩)
  refine Reg.wpMainT_enter (fn := 39) (args := #[.slice a4 y4.length d4, .int .u64 l.mode, .int .i64 2]) rfl (by simp [Region.wanted]) ?_ (put_any B a4 d4 y4 l.mode 2 m0 (by omega) (by omega) w5.drew (HOK.out _ P5d.grown) P5d.own (by have := P5d.size; omega) (by have := HX.out; have := HL4.out; omega)) ?_
  · go_simp
    try (first | rfl | exact ⟨rfl, rfl⟩)
  rintro e w6 ⟨a6, d6, rfl, O6, q6, i6⟩
  obtain ⟨k1, k2, k3⟩ := P5d.keep q6
  refine ⟨_, rfl, .inr ⟨k1.cell, (blk6 k2).2.2.1, (blk6 k2).2.2.2.1⟩, ?_⟩
  obtain ⟨y6, hy6⟩ : ∃ y, y4 ++ le l.mode 2 = y := ⟨_, rfl⟩
  have hl6 : y6.length = y4.length + 2 := by rw [← hy6, List.length_append, le_length]
  rw [hy6] at O6 i6 ⊢
  have HL6 := Lib.hid hl6
  clear hl6
  refine Reg.wpMainT_enter (fn := 39) (args := #[.slice a6 y6.length d6, .int .u64 l.stamp, .int .i64 8]) rfl (by simp [Region.wanted]) ?_ (put_any B a6 d6 y6 l.stamp 8 hst.1 hst.2 (by omega) w6 (HOK.out _ k3) O6 (by have := k3.size; omega) (by have := HX.out; have := HL4.out; have := HL6.out; omega)) ?_
  · go_simp
    try (first | rfl | exact ⟨rfl, rfl⟩)
  rintro e w7 ⟨a7, d7, rfl, O7, q7, i7⟩
  obtain ⟨y7, hy7⟩ : ∃ y, y6 ++ le l.stamp 8 = y := ⟨_, rfl⟩
  have hl7 : y7.length = y6.length + 8 := by rw [← hy7, List.length_append, le_length]
  rw [hy7] at O7 i7 ⊢
  have HL7 : Hid (y7.length = xs.length + 12) := Lib.hid (by have := HL4.out; have := HL6.out; omega)
  clear hl7
  have q67 := grown_ish q6 q7 i6
  have i67 := ish_trans i6 q6.size i7
  obtain ⟨k1, k2, k3⟩ := P5d.keep q67
  refine ⟨_, rfl, .inr ⟨k1.cell, (blk6 k2).2.2.1, (blk6 k2).2.2.2.1⟩, ?_⟩
  obtain ⟨w8, hw8, P8⟩ := P5d.step q67 O7 i67
  have z0 := k1.frozen
  have z1 := k1.cell
  refine Reg.wpMainT_skip (w' := w8) rfl (by simp [Region.wanted]) ?_ (.inl rfl) ?_
  · go_simp
    try (first | rfl | exact ⟨rfl, rfl⟩)
  refine Reg.wpMainT_nil ?_
  simp only [List.getElem_toArray, List.getElem_cons_succ, List.getElem_cons_zero, Act.put, List.setIfInBounds_toArray, List.set_cons_zero, List.set_cons_succ]
  have HY7 := Lib.hid (And.intro hy6 hy7)
  clear hy6 hy7 HL6 q67 i67 k1 k2 k3 q6 q7 i6 i7 O6 O7 z0 z1 hw8 b0 b1 b2 b3 b4 b5 c0 P5 P5d HL4 e4
  obtain ⟨g9, hg9⟩ : ∃ g, w8.heap.size = g := ⟨_, rfl⟩
  obtain ⟨w9, v10, w10, hw9, hap, O10, q10, i10⟩ := append_lit 22 B a7 d7 y7 [(nm.size : Int)] w8 P8.own (by have := HL7.out; have := HX.out; simp; omega) (by have := P8.size; omega)
  obtain ⟨y10, hy10⟩ : ∃ y, y7 ++ [(nm.size : Int)] = y := ⟨_, rfl⟩
  have HL10 : Hid (y10.length = xs.length + 13) := Lib.hid (by rw [← hy10, List.length_append]; have := HL7.out; simp; omega)
  rw [hy10] at O10
  have HY10 := Lib.hid hy10
  clear hy10
  obtain ⟨a10, d10, rfl⟩ := O10.form
  obtain ⟨v11, w11, hap2, O11, q11, i11⟩ := append_str 22 B a10 d10 y10 nm w10 O10 (by have := HL10.out; have := HX.out; omega) (by have := P8.size; have := q10.size; omega)
  obtain ⟨y11, hy11⟩ : ∃ y, y10 ++ bytesI nm = y := ⟨_, rfl⟩
  have HL11 : Hid (y11.length ≤ xs.length + 76) := Lib.hid (by rw [← hy11, List.length_append, bytesI_length]; have := HL10.out; omega)
  rw [hy11] at O11
  have HY11 := Lib.hid hy11
  clear hy11
  obtain ⟨a11, d11, rfl⟩ := O11.form
  have q1011 := grown_ish q10 q11 i10
  have i1011 := ish_trans i10 q10.size i11
  obtain ⟨w12, hw12, P12⟩ := P8.step q1011 O11 i1011
  rw [hg9] at hap
  simp only [List.map_cons, List.map_nil, List.length_cons, List.length_nil, Nat.zero_add, Nat.reduceAdd] at hw9 hap
  have e5 : IntKind.u8.wrap (nm.size : Int) = (nm.size : Int) := by rw [IntKind.wrap_u8]; omega
  obtain ⟨k1, k2, k3⟩ := P8.keep q1011
  have z0 := k1.frozen
  have z1 := k1.cell
  have c0 := P8.box.cell
  go_upto_region 5 with (first
    | (at_builtin; refine wpList_append_run rfl _ _ 22 22 rfl (by simp [Act.eval]) (by simp [Act.eval]) hap ?_)
    | (at_builtin; refine wpList_append_run rfl _ _ 22 9 rfl (by simp [Act.eval]) (by simp [Act.eval]) hap2 ?_))
  clear hap hap2 hw9 hw12 q10 i10 q11 i11 O10 O11 q1011 i1011 k1 k2 k3 z0 z1 c0 e5 P8
  obtain ⟨b0, b1, b2, b3, b4, b5⟩ := blk6 P12.leaf
  have c0 := P12.box.cell
  by_cases ty1 : l.ty = 1
  · have e6 : IntKind.u64.wrap (l.data.length : Int) = (l.data.length : Int) := u64_in ⟨by omega, by omega⟩
    have e7 : (1 : Int) = l.ty := ty1.symm
    obtain ⟨tyv, htyv⟩ : ∃ t, l.ty = t := ⟨_, rfl⟩
    have hput := put_any B a11 d11 y11 (l.data.length : Int) 4 (by omega) (by omega) (by omega) w12 (HOK.out _ P12.grown) P12.own (by have := P12.size; omega) (by have := HX.out; have := HL11.out; omega)
    obtain ⟨y13, hy13⟩ : ∃ y, y11 ++ le (l.data.length : Int) 4 = y := ⟨_, rfl⟩
    have HL13 : Hid (y13.length ≤ xs.length + 80) := Lib.hid (by rw [← hy13, List.length_append, le_length]; have := HL11.out; omega)
    rw [hy13] at hput
    have HY13 := Lib.hid hy13
    have HPut := Lib.hid hput
    clear hput hy13
    have hb1 : w12.cell? ⟨g2, 1, none⟩ = some (.int .i64 1) := by rw [b1, ty1]
    clear b1 e7
    go_wp2_with (first
      | (go_at_call 39; refine HPut.out.mono ?_; rintro e w13 ⟨a13, d13, rfl, O13, q13, i13⟩; go_loud (obtain ⟨w14, hw14, P14⟩ := P12.step q13 O13 i13); go_loud (obtain ⟨k1, k2, k3⟩ := P12.keep q13); have z0 := k1.frozen; have z1 := k1.cell; go_loud (obtain ⟨b0', b1', b2', b3', b4', b5'⟩ := blk6 P14.leaf))
      | (go_at_call 65; refine (stretches_any da l.data.length dd _).mono ?_; rintro e wq ⟨rfl, hwq⟩))
    obtain ⟨gi, hgi⟩ : ∃ g, w14.heap.size = g := ⟨_, rfl⟩
    obtain ⟨w15, hw15⟩ : ∃ w, w14.alloc (.cells #[.slice da l.data.length dd] 22) = w := ⟨_, rfl⟩
    rw [hw15]
    try rw [hgi]
    have g15 : w14.grownBy w15 none := by rw [← hw15]; exact World.grownBy_alloc _ _ none
    have P15 := P14.more g15 (fun r e => by cases e)
    have Bi : Boxed w15 gi 22 (.slice da l.data.length dd) := by rw [← hw15, ← hgi]; exact Boxed.new _ _ _
    have hsz15 : gi + 1 = w15.heap.size := by rw [← hw15, ← hgi]; simp
    have hgi1 : w.heap.size ≤ gi := by rw [← hgi]; exact P14.size
    have hne1 : gi ≠ g1 := by have h1 := (Array.getElem?_eq_some_iff.1 P14.box).1; omega
    have hne2 : gi ≠ g2 := by have h1 := (Array.getElem?_eq_some_iff.1 P14.leaf).1; omega
    have hdw : ∀ W, w.grownBy W (Value.slice A xs.length c).ownBlock → BytesAt W da l.data := fun W g => by
      by_cases hL0 : l.data = []
      · exact .inl hL0
      · exact hD.grown g (fun a e e2 => by
          have h1 := hdB a (by unfold datA; rw [if_neg hL0]; exact e)
          have h2 := (World.ownsRow.lt hO a.block e2.symm).1
          omega)
    have HDW := Lib.hid hdw
    have HDB := Lib.hid hdB
    clear hdw hw15 hgi hw14 z0 z1 k1 k2 k3 q13 i13 O13 b0 b2 b3 b4 b5 b0' b1' b2' b3' b4' b5' c0 hb1 hwq P14 P12 HPut hO hD hdB
    refine wpIn_wide.1 (wp_range_box (n := 9) 8 102 (fun x : Nat × Nat × Nat => #[.int .i64 x.1, .int .i64 x.2.1, .int .i64 x.2.2]) rfl (by decide) (gf := 78) (lb := #[.pointer (some ⟨gi, 0, none⟩)]) rfl trivial (enters_of Tryd.func78 (by kernel_rfl) rfl)
      (enc := fun x : Nat × Nat × Nat => .agg #[.int .i64 x.1, .int .i64 x.2.1, .int .i64 x.2.2]) (stretC_gives 8 gi (by decide) da dd l.data hdd (by omega) w15 (HOK.out _ P15.grown) Bi (HDW.out _ P15.grown)) KeepD.trans ?hKb (fun r h => h.elim)
      (fun pre W => ∃ v, PcS w W B g1 g2 (Value.slice A xs.length c).ownBlock #[.string l.path, .int .i64 l.ty, .int .i64 l.mode, .int .u64 l.stamp, .slice da l.data.length dd, .string l.tgt] v (y13 ++ pre.flatMap (stretB l.data)) ∧ Boxed W gi 22 (.slice da l.data.length dd))
      ?hI ⟨_, by simpa using P15, Bi⟩ ?assign ?body ?done)
    case hKb =>
      intro W j o' hj
      refine ⟨World.putObj_heap_other (by omega), World.putObj_heap_other (by omega), fun a e => World.putObj_heap_other (by have := HDB.out a e; omega)⟩
    case hI =>
      rintro pre X Y row ⟨v, hP, hBi⟩ hG hrow
      have hr : ∀ r, row = some r → w.heap.size ≤ r ∧ ∃ o : Obj, X.heap[r]? = some o ∧ o.isCells = false := fun r e => by
        rcases hrow r e with h | ⟨h1, h2⟩
        · exact h.elim
        · exact ⟨by omega, h2⟩
      refine ⟨v, hP.walk hG hr, hBi.kept hG (fun e => ?_)⟩
      obtain ⟨_, o, ho, hc⟩ := hr gi e.symm
      rw [show X.heap[gi]? = _ from hBi] at ho
      injection ho with ho
      subst ho
      cases hc
    case assign =>
      rintro j pre x W K ⟨v, hP, hBi⟩ hK
      obtain ⟨x0, x1, x2⟩ := x
      gi_wp2
      have hlt := hBi.lt
      have hWs := hP.size
      refine hK W.heap.size _ (KeepsOthers.from (KeepsOthers.alloc W _) _) ⟨Below.heap_alloc W _ 0 (by omega), Below.heap_alloc W _ gi hlt, fun a e => Below.heap_alloc W _ a.block (by have := HDB.out a e; omega)⟩ ⟨v, hP.more (World.grownBy_alloc W _ none) (fun r e => by cases e), hBi.kept (World.grownBy_alloc W _ none) (by simp)⟩ (by omega) (World.alloc_heap_new W _)
    case body =>
      rintro j pre x post gs W hx ⟨v, hP, hBi⟩ hgs hS
      obtain ⟨x0, x1, x2⟩ := x
      have hmem := stretS_mem l.data l.data.length 0 (Nat.zero_le _) (x0, x1, x2) (by
        have h1 : (x0, x1, x2) ∈ stretX l.data := by rw [hx]; simp
        exact h1)
      obtain ⟨hx0, hx12, hx2⟩ := hmem
      dsimp only at hx0 hx12 hx2
      have hlen : (y13 ++ pre.flatMap (stretB l.data)).length ≤ 1300000000 := by
        have h1 := stretX_len l.data
        rw [hx, List.flatMap_append, List.length_append] at h1
        rw [List.length_append]
        have := HL13.out; have := HX.out
        omega
      obtain ⟨ys, hys⟩ : ∃ ys, y13 ++ pre.flatMap (stretB l.data) = ys := ⟨_, rfl⟩
      rw [hys] at hP hlen
      have HYs := Lib.hid hys
      have HLs := Lib.hid hlen
      clear hys hlen hx
      obtain ⟨av, dv, rfl⟩ := hP.form
      have hPd := hP.more (show W.grownBy W.drew none from ⟨rfl, rfl, rfl, Nat.le_refl _, fun _ _ _ => rfl⟩) (fun r e => by cases e)
      have hlt := hBi.lt
      obtain ⟨wa, vb, wb, hwa, hap, Ob, qb, ib⟩ := append_lit 22 B av dv ys [(x0 : Int)] W.drew hPd.own (by have := HLs.out; simp; omega) (by have := hPd.size; omega)
      obtain ⟨yb, hyb⟩ : ∃ y, ys ++ [(x0 : Int)] = y := ⟨_, rfl⟩
      have HLb : Hid (yb.length = ys.length + 1) := Lib.hid (by rw [← hyb]; simp)
      rw [hyb] at Ob
      have HYb := Lib.hid hyb
      clear hyb
      obtain ⟨ab, db, rfl⟩ := Ob.form
      obtain ⟨gw, hgw⟩ : ∃ g, W.drew.heap.size = g := ⟨_, rfl⟩
      rw [hgw] at hap
      simp only [List.map_cons, List.map_nil, List.length_cons, List.length_nil, Nat.zero_add, Nat.reduceAdd] at hwa hap
      have e8 : IntKind.u8.wrap (x0 : Int) = (x0 : Int) := by rw [IntKind.wrap_u8]; omega
      have e9 : IntKind.u64.wrap (x2 : Int) = (x2 : Int) := u64_in ⟨by omega, by omega⟩
      have s0 := hPd.box.cell
      have hSd : W.drew.heap[gs]? = some (.cells #[.int .i64 x0, .int .i64 x1, .int .i64 x2] 102 (0, 0)) := hS
      obtain ⟨t0, t1, t2⟩ := blk3 hSd
      simp only [List.setIfInBounds_toArray, List.set_cons_zero, List.set_cons_succ]
      gi_upto_region 10 with fail
      refine Reg.wpIn_region_late (fun w' => w'.cell? ⟨g1, 0, none⟩ = some (.slice av ys.length dv) ∧ w'.cell? ⟨gs, 0, none⟩ = some (.int .i64 x0) ∧ w'.cell? ⟨gs, 2, none⟩ = some (.int .i64 x2)) 10 [0, 1, 2, 3, 6, 7, 8] [4, 5, 9, 10] (by kernel_rfl) (by kernel_rfl) (by kernel_rfl) ⟨s0, t0, t2⟩ (fun a w h => h.elim) ?_
      iterate 7
        refine Reg.wpLateT_step (v := ?_) rfl ?_ (fun w' hS => ?_) ?_
        rotate_left
        · simp [Region.wanted]
        · obtain ⟨s1, s2, s3⟩ := hS
          go_simp
          try (first | rfl | exact ⟨rfl, rfl⟩)
      have ga : W.drew.grownBy wa none := by rw [← hwa]; exact World.grownBy_alloc _ _ none
      have ka := hPd.box.kept ga (by simp)
      obtain ⟨u0, u1, u2⟩ := blk3 ((ga.block gs (Array.getElem?_eq_some_iff.1 hSd).1 (by simp)).trans hSd)
      refine Reg.wpMainT_run (v := (.slice (some ⟨gw, 0, none⟩) 1 1)) (w' := wa) rfl (by simp [Region.wanted]) ?_ (.inr ⟨ka.cell, u0, u2⟩) ?_
      · go_simp
        try (first | rfl | exact ⟨rfl, rfl⟩)
      obtain ⟨kb, _, kb3⟩ := hPd.keep qb
      have hSb := (qb.block gs (Array.getElem?_eq_some_iff.1 hSd).1 (own_ne3 hPd.own hSd (by decide))).trans hSd
      refine Reg.wpMainT_append rfl rfl _ _ 22 22 rfl (by simp [Act.eval, Act.put]; try rfl) (by simp [Act.eval, Act.put]; try rfl) hap (.inr ⟨kb.cell, (blk3 hSb).1, (blk3 hSb).2.2⟩) ?_
      have hput := put_any B ab db yb (x2 : Int) 4 (by omega) (by omega) (by omega) wb (HOK.out _ kb3) Ob (by have := kb3.size; omega) (by have := HLs.out; have := HLb.out; omega)
      obtain ⟨yc, hyc⟩ : ∃ y, yb ++ le (x2 : Int) 4 = y := ⟨_, rfl⟩
      have HLc : Hid (yc.length = ys.length + 5) := Lib.hid (by rw [← hyc, List.length_append, le_length]; have := HLb.out; omega)
      rw [hyc] at hput
      have HYc := Lib.hid hyc
      clear hyc
      refine Reg.wpMainT_enter (fn := 39) (args := #[.slice ab yb.length db, .int .u64 x2, .int .i64 4]) rfl (by simp [Region.wanted]) ?_ hput ?_
      · go_simp
        try (first | rfl | exact ⟨rfl, rfl⟩)
      rintro e wc ⟨ac, dc, rfl, Oc, qc, ic⟩
      have qbc := grown_ish qb qc ib
      have ibc := ish_trans ib qb.size ic
      obtain ⟨kc, _, kc3⟩ := hPd.keep qbc
      have hSc := (qbc.block gs (Array.getElem?_eq_some_iff.1 hSd).1 (own_ne3 hPd.own hSd (by decide))).trans hSd
      refine ⟨_, rfl, .inr ⟨kc.cell, (blk3 hSc).1, (blk3 hSc).2.2⟩, ?_⟩
      obtain ⟨we, hwe, hPe⟩ := hPd.step qbc Oc ibc
      have hT := hPd.turns qbc (.slice ac yc.length dc) hB0 hB (gi := gi) (x := .slice da l.data.length dd) hBi hne1 (da := datA l.data da) HDB.out w15.heap.size
      rw [hwe] at hT
      have hSe : we.heap[gs]? = some (.cells #[.int .i64 x0, .int .i64 x1, .int .i64 x2] 102 (0, 0)) := by
        rw [← hwe]
        have hg1 := hP.box.lt
        have h1 := (Array.getElem?_eq_some_iff.1 P15.box).1
        exact ((grownBy_setCell' wc g1 _).block gs (Array.getElem?_eq_some_iff.1 hSc).1 (fun e => by injection e with e; omega)).trans hSc
      have z0 := kc.frozen
      have z1 := kc.cell
      refine Reg.wpMainT_skip (w' := we) rfl (by simp [Region.wanted]) ?_ (.inl rfl) ?_
      · go_simp
        try (first | rfl | exact ⟨rfl, rfl⟩)
      refine Reg.wpMainT_nil ?_
      simp only [List.getElem_toArray, List.getElem_cons_succ, List.getElem_cons_zero, Act.put, List.setIfInBounds_toArray, List.set_cons_zero, List.set_cons_succ]
      have HT2 := Lib.hid hT
      have hBe : Boxed we gi 22 (.slice da l.data.length dd) := hT.2.2.1.trans hBi
      clear hT z0 z1 hwe kc kc3 qbc ibc ic qc Oc hput kb kb3 hap hwa ka u0 u1 u2 t0 t1 t2 s0 e8 e9 hPd hSc hSb
      obtain ⟨t0, t1, t2⟩ := blk3 hSe
      rcases hx0 with rfl | rfl
      · have hq : y13 ++ (pre ++ [(0, x1, x2)]).flatMap (stretB l.data) = yc := by
          rw [← HYc.out, ← HYb.out, ← HYs.out]
          simp [stretB]
        rw [← hq, ty1] at hPe
        have HPe := Lib.hid hPe
        clear hPe hq
        gi_wp2
        exact ⟨⟨HT2.out.1.size, HT2.out.1.same⟩, ⟨HT2.out.2.1, HT2.out.2.2.1, HT2.out.2.2.2⟩, ⟨_, HPe.out⟩, hBe⟩
      · have hDe := HDW.out we hPe.grown
        obtain ⟨gd, od, rfl, hBD⟩ : ∃ gd od, da = some ⟨gd, od, none⟩ ∧ BytesAt we (some ⟨gd, od, none⟩) l.data := by
          rcases hDe with h | ⟨gd, od, h1, h2⟩
          · rw [h] at hx12; simp at hx12; omega
          · subst h1; exact ⟨gd, od, rfl, .inr ⟨gd, od, rfl, h2⟩⟩
        have hPf := hPe.more (show we.grownBy we.drew none from ⟨rfl, rfl, rfl, Nat.le_refl _, fun _ _ _ => rfl⟩) (fun r e => by cases e)
        obtain ⟨sd, hsd⟩ : ∃ s, (l.data.drop x1).take x2 = s := ⟨_, rfl⟩
        have hsl : sd.length = x2 := by rw [← hsd, List.length_take, List.length_drop]; omega
        have hBs : BytesAt we.drew (some ⟨gd, od + x1, none⟩) sd := by rw [← hsd]; exact hBD.sub x1 x2
        obtain ⟨vf, wf, hap, Of, qf, jf⟩ := append_row 22 B ac dc yc sd (some ⟨gd, od + x1, none⟩) (dd - x1) we.drew hPf.own hBs (fun e => by cases e) (by have := HLs.out; have := HLc.out; omega) (by have := hPf.size; omega)
        rw [hsl] at hap
        obtain ⟨yf, hyf⟩ : ∃ y, yc ++ sd = y := ⟨_, rfl⟩
        rw [hyf] at Of
        have hq : y13 ++ (pre ++ [(1, x1, x2)]).flatMap (stretB l.data) = yf := by
          rw [← hyf, ← HYc.out, ← HYb.out, ← HYs.out, ← hsd]
          simp [stretB]
        have HQ := Lib.hid hq
        clear hq hyf hsd
        obtain ⟨af, df, rfl⟩ := Of.form
        obtain ⟨wg, hwg, hPg⟩ := hPf.step qf Of jf
        obtain ⟨kf, kf2, _⟩ := hPf.keep qf
        have hT := hPf.turns qf (.slice af yf.length df) hB0 hB (gi := gi) (x := .slice (some ⟨gd, od, none⟩) l.data.length dd) hBe hne1 (da := datA l.data (some ⟨gd, od, none⟩)) HDB.out w15.heap.size
        rw [hwg] at hT
        have HT3 := Lib.hid hT
        have hBg : Boxed wg gi 22 (.slice (some ⟨gd, od, none⟩) l.data.length dd) := hT.2.2.1.trans hBe
        clear hT
        obtain ⟨x3, hx3⟩ : ∃ x3, x1 + x2 = x3 := ⟨_, rfl⟩
        have e8 : IntKind.i64.wrap ((x1 : Int) + (x2 : Int)) = (x3 : Int) := by rw [IntWalk.i64_in _ ⟨by omega, by omega⟩]; omega
        have l1 : (0 : Int) ≤ (x3 : Int) := by omega
        have l2 : x1 ≤ x3 := by omega
        have l3 : (x3 : Int) ≤ (dd : Int) := by omega
        have l4 : x3 - x1 = x2 := by omega
        have l5 : ¬ (dd = x1) := by omega
        clear hx3
        have s0 := hPf.box.cell
        have s1 := (blk6 hPf.leaf).2.2.2.2.1
        have hSf : we.drew.heap[gs]? = some (.cells #[.int .i64 1, .int .i64 x1, .int .i64 x2] 102 (0, 0)) := hSe
        obtain ⟨v0, v1, v2⟩ := blk3 hSf
        have z0 := kf.frozen
        have z1 := kf.cell
        gi_upto_region 12 with fail
        refine Reg.wpIn_region_late (fun w' => w'.cell? ⟨g1, 0, none⟩ = some (.slice ac yc.length dc) ∧ w'.cell? ⟨g2, 4, none⟩ = some (.slice (some ⟨gd, od, none⟩) l.data.length dd) ∧ w'.cell? ⟨gs, 1, none⟩ = some (.int .i64 x1) ∧ w'.cell? ⟨gs, 2, none⟩ = some (.int .i64 x2)) 12 [0, 1, 2, 3, 4, 5, 6, 7, 8, 9, 10] [11, 12] (by kernel_rfl) (by kernel_rfl) (by kernel_rfl) ⟨s0, s1, v1, v2⟩ (fun a w h => h.elim) ?_
        iterate 11
          refine Reg.wpLateT_step (v := ?_) rfl ?_ (fun w' hS => ?_) ?_
          rotate_left
          · simp [Region.wanted]
          · obtain ⟨q1, q2, q3, q4⟩ := hS
            go_simp
            try (first | rfl | exact ⟨rfl, rfl⟩)
        refine Reg.wpMainT_append rfl rfl _ _ 22 22 rfl (by simp [Act.eval, Act.put]; try rfl) (by simp [Act.eval, Act.put]; try rfl) hap (.inr ⟨kf.cell, (blk6 kf2).2.2.2.2.1, (blk3 ((qf.block gs (Array.getElem?_eq_some_iff.1 hSf).1 (own_ne3 hPf.own hSf (by decide))).trans hSf)).2.1, (blk3 ((qf.block gs (Array.getElem?_eq_some_iff.1 hSf).1 (own_ne3 hPf.own hSf (by decide))).trans hSf)).2.2⟩) ?_
        refine Reg.wpMainT_skip (w' := wg) rfl (by simp [Region.wanted]) ?_ (.inl rfl) ?_
        · go_simp
          try (first | rfl | exact ⟨rfl, rfl⟩)
        refine Reg.wpMainT_nil ?_
        simp only [List.getElem_toArray, List.getElem_cons_succ, List.getElem_cons_zero, Act.put, List.setIfInBounds_toArray, List.set_cons_zero, List.set_cons_succ]
        rw [← HQ.out, ty1] at hPg
        have HPg := Lib.hid hPg
        clear hPg
        gi_wp2
        exact ⟨KeepsFrom.trans ⟨HT2.out.1.size, HT2.out.1.same⟩ ⟨HT3.out.1.size, HT3.out.1.same⟩, KeepD.trans ⟨HT2.out.2.1, HT2.out.2.2.1, HT2.out.2.2.2⟩ ⟨HT3.out.2.1, HT3.out.2.2.1, HT3.out.2.2.2⟩, ⟨_, HPg.out⟩, hBg⟩
    case done =>
      rintro D W hDs ⟨v, hP, hBi⟩ hK
      have hfin : y13 ++ (stretX l.data).flatMap (stretB l.data) = Z := by
        rw [← HZ.out, ← HR.out, ← HY13.out, ← HY11.out, ← HY10.out, ← HY7.out.2, ← HY7.out.1, ← HY4.out]
        unfold pieceB pieceH pieceT cutB
        rw [if_pos ty1, hm, hnm, show m - 1 = k by omega]
        simp only [List.append_assoc]
      rw [hfin] at hP
      have c0 := hP.box.cell
      obtain ⟨av, dv, rfl⟩ := hP.form
      have hP2 := hP.walk (grownBy_putObj' W D (.deferred none)) (fun r e => by cases e; exact ⟨by omega, _, hK, rfl⟩)
      have HP2 := Lib.hid hP2
      clear hP hP2 hfin
      go_wp2_with fail
      exact ⟨by simp, .inl ⟨_, _, rfl, run_takeDeferred hK, _, results_tmp rfl _ _ _, av, dv, rfl, HP2.out.own, HP2.out.grown, HP2.out.ish⟩⟩
  · by_cases ty3 : l.ty = 3
    · have hb1 : w12.cell? ⟨g2, 1, none⟩ = some (.int .i64 3) := by rw [b1, ty3]
      clear b1
      have htg : 1 ≤ l.tgt.size ∧ l.tgt.size ≤ 127 := by
        have h := HT.out.2.2 ty3
        unfold targetB at h
        simp only [Bool.and_eq_true, decide_eq_true_eq] at h
        exact h.1
      have Pd := P12.more (show w12.grownBy w12.drew none from ⟨rfl, rfl, rfl, Nat.le_refl _, fun _ _ _ => rfl⟩) (fun r e => by cases e)
      obtain ⟨wa, vb, wb, hwa, hap, Ob, qb, ib⟩ := append_lit 22 B a11 d11 y11 [(l.tgt.size : Int)] w12.drew Pd.own (by have := HL11.out; have := HX.out; simp; omega) (by have := Pd.size; omega)
      obtain ⟨yb, hyb⟩ : ∃ y, y11 ++ [(l.tgt.size : Int)] = y := ⟨_, rfl⟩
      have HLb : Hid (yb.length = y11.length + 1) := Lib.hid (by rw [← hyb]; simp)
      rw [hyb] at Ob
      obtain ⟨ab, db, rfl⟩ := Ob.form
      obtain ⟨vc, wc, hap2, Oc, qc, ic⟩ := append_str 22 B ab db yb l.tgt wb Ob (by have := HLb.out; have := HL11.out; have := HX.out; omega) (by have := Pd.size; have := qb.size; omega)
      have hfin : yb ++ bytesI l.tgt = Z := by
        rw [← HZ.out, ← HR.out, ← hyb, ← HY11.out, ← HY10.out, ← HY7.out.2, ← HY7.out.1, ← HY4.out]
        unfold pieceB pieceH pieceT
        rw [if_neg ty1, if_pos ty3, hm, hnm, show m - 1 = k by omega]
        simp only [List.append_assoc]
      rw [hfin] at Oc
      clear hfin hyb
      obtain ⟨av, dv, rfl⟩ := Oc.form
      obtain ⟨gw, hgw⟩ : ∃ g, w12.drew.heap.size = g := ⟨_, rfl⟩
      rw [hgw] at hap
      simp only [List.map_cons, List.map_nil, List.length_cons, List.length_nil, Nat.zero_add, Nat.reduceAdd] at hwa hap
      have e8 : IntKind.u8.wrap (l.tgt.size : Int) = (l.tgt.size : Int) := by rw [IntKind.wrap_u8]; omega
      have qbc := grown_ish qb qc ib
      have ibc := ish_trans ib qb.size ic
      obtain ⟨we, hwe, hPe⟩ := Pd.step qbc Oc ibc
      have ga : w12.drew.grownBy wa none := by rw [← hwa]; exact World.grownBy_alloc _ _ none
      have ka := Pd.box.kept ga (by simp)
      have ka2 := (ga.block g2 (Array.getElem?_eq_some_iff.1 Pd.leaf).1 (by simp)).trans Pd.leaf
      obtain ⟨kb, kb2, _⟩ := Pd.keep qb
      obtain ⟨kc, kc2, _⟩ := Pd.keep qbc
      have z0 := kc.frozen
      have z1 := kc.cell
      have cE := hPe.box.cell
      go_upto_region 14 with fail
      refine Reg.wp_region_late (fun w' => w'.cell? ⟨g1, 0, none⟩ = some (.slice a11 y11.length d11) ∧ w'.cell? ⟨g2, 5, none⟩ = some (.string l.tgt)) 10 [0, 1, 2, 3, 4, 7, 8] [5, 6, 9, 10] (by kernel_rfl) (by kernel_rfl) ⟨Pd.box.cell, (blk6 Pd.leaf).2.2.2.2.2⟩ ?_
      iterate 7
        refine Reg.wpLateT_step (v := ?_) rfl ?_ (fun w' hS => ?_) ?_
        rotate_left
        · simp [Region.wanted]
        · obtain ⟨s1, s2⟩ := hS
          go_simp
          try (first | rfl | exact ⟨rfl, rfl⟩)
      refine Reg.wpMainT_run (v := (.slice (some ⟨gw, 0, none⟩) 1 1)) (w' := wa) rfl (by simp [Region.wanted]) ?_ (.inr ⟨ka.cell, (blk6 ka2).2.2.2.2.2⟩) ?_
      · go_simp
        try (first | rfl | exact ⟨rfl, rfl⟩)
      refine Reg.wpMainT_append rfl rfl _ _ 22 22 rfl (by simp [Act.eval, Act.put]; try rfl) (by simp [Act.eval, Act.put]; try rfl) hap (.inr ⟨kb.cell, (blk6 kb2).2.2.2.2.2⟩) ?_
      refine Reg.wpMainT_append rfl rfl _ _ 22 9 rfl (by simp [Act.eval, Act.put]; try rfl) (by simp [Act.eval, Act.put]; try rfl) hap2 (.inr ⟨kc.cell, (blk6 kc2).2.2.2.2.2⟩) ?_
      refine Reg.wpMainT_skip (w' := we) rfl (by simp [Region.wanted]) ?_ (.inl rfl) ?_
      · go_simp
        try (first | rfl | exact ⟨rfl, rfl⟩)
      refine Reg.wpMainT_nil ?_
      simp only [List.getElem_toArray, List.getElem_cons_succ, List.getElem_cons_zero, Act.put, List.setIfInBounds_toArray, List.set_cons_zero, List.set_cons_succ]
      have HPe := Lib.hid hPe
      clear hPe hap hap2 hwa hwe z0 z1 kb kb2 kc kc2 ka ka2 qb qc ib ic qbc ibc Ob Oc
      go_wp2_with fail
      exact ⟨_, results_tmp rfl _ _ _, av, dv, rfl, HPe.out.own, HPe.out.grown, HPe.out.ish⟩
    · have ty2 : l.ty = 2 := by omega
      have hb1 : w12.cell? ⟨g2, 1, none⟩ = some (.int .i64 2) := by rw [b1, ty2]
      clear b1
      have hfin : y11 = Z := by
        rw [← HZ.out, ← HR.out, ← HY11.out, ← HY10.out, ← HY7.out.2, ← HY7.out.1, ← HY4.out]
        unfold pieceB pieceH pieceT
        rw [if_neg ty1, if_neg ty3, hm, hnm, show m - 1 = k by omega]
        simp only [List.append_assoc, List.append_nil]
      subst hfin
      have HP := Lib.hid P12
      clear P12 ty1 ty3
      go_wp2_with fail
      exact ⟨_, results_tmp rfl _ _ _, a11, d11, rfl, HP.out.own, HP.out.grown, HP.out.ish⟩
end Go.Proofs.YtlnaeppbhjmocaaDoor
set_option linter.unusedSimpArgs false
set_option linter.unusedVariables false
namespace Go.Proofs.YtlnaeppbhjmocaaDoor
open Go.RowKit Go.Proofs Go.Proofs.YtlnaeppbhjmocaaDoorW.PrintWords Go.Proofs.YtlnaeppbhjmocaaDoorW.PrintLast Go.Proofs.YtlnaeppbhjmocaaDoorW.PrintMore

/-- a row: full and not the call's own, or the call's own -/
def RowF (w wc : World) (A : Addr) (xs : List Int) (a : Option Addr) (d : Nat) (zs : List Int) : Prop :=
  (a = some A ∧ d = xs.length ∧ zs = xs ∧ BytesAt wc a zs) ∨ OwnB wc w.heap.size (.slice a zs.length d) zs
set_option maxRecDepth 100000 in
theorem rowF_append {w wc : World} {A : Addr} {xs : List Int} {a : Option Addr} {d : Nat} {zs : List Int} (h : RowF w wc A xs a d zs) (hg : w.grownBy wc none) (y : Int) (hl : zs.length ≤ 1099511627000) :
    ∃ w1 v' w', wc.alloc (.cells #[.int .u8 y] 5) = w1 ∧ (Builtin.append_ #[22, 22] 22 #[.slice a zs.length d, .slice (some ⟨wc.heap.size, 0, none⟩) 1 1]).run Tryd.prog w1 = .ok v' w' ∧ OwnB w' w.heap.size v' (zs ++ [y]) ∧ w.grownBy w' none := by
  have hsz := hg.size
  rcases h with ⟨rfl, rfl, rfl, hB⟩ | h
  · obtain ⟨i, hi, hz, hs, hby⟩ := info_byte
    have ga : wc.grownBy (wc.alloc (.cells #[.int .u8 y] 5)) none := World.grownBy_alloc _ _ none
    have hB1 : BytesAt (wc.alloc (.cells #[.int .u8 y] 5)) (some A) zs := hB.grown ga (fun a e => by simp)
    have holds : ∀ j u, (zs.map (Value.int .u8))[j]? = some u → (wc.alloc (.cells #[.int .u8 y] 5)).cell? (A.add j) = some u := by
      intro j u hj
      rw [List.getElem?_map, Option.map_eq_some_iff] at hj
      obtain ⟨x, hx, rfl⟩ := hj
      rcases hB1 with h | ⟨g, o, e, _, h⟩
      · rw [h] at hx; simp at hx
      · injection e with e
        subst e
        rw [Lib.add_plain]
        exact h j x hx
    have hnews : ∀ j u, [Value.int .u8 y][j]? = some u → (wc.alloc (.cells #[.int .u8 y] 5)).cell? ((⟨wc.heap.size, 0, none⟩ : Addr).add j) = some u := cell_one_new _ _ _
    obtain ⟨v', w', hr, h2, h3⟩ := run_append_arg_grows (P := Tryd.prog) (w := wc.alloc (.cells #[.int .u8 y] 5)) 22 22 5 i (.int .u8 0) 1 1 Tryd.underlying22 hi hz hs hby rfl (by decide) A zs.length zs.length (zs.map (Value.int .u8)) (by simp) holds ⟨wc.heap.size, 0, none⟩ 1 1 [.int .u8 y] rfl hnews (by omega) (by unfold maxLen; omega) (by omega)
    refine ⟨_, v', w', rfl, hr, ?_, grown_trans hg (grown_trans ga h3)⟩
    unfold OwnB
    rw [List.length_append, List.map_append]
    obtain ⟨q1, q2⟩ := h2
    refine ⟨by simpa using q1, ?_⟩
    rcases q2 with q2 | ⟨g', cap, cur, e1, e2, r⟩
    · exact .inl (by simpa using q2)
    · exact .inr ⟨g', cap, cur, e1, Nat.le_trans hsz (Nat.le_trans ga.size e2), by simpa using r⟩
  · obtain ⟨w1, v', w', h1, h2, h3, h4, h5⟩ := append_lit 22 w.heap.size a d zs [y] wc h (by simp; omega) hsz
    refine ⟨w1, v', w', h1, h2, h3, ?_⟩
    exact grown_own hg h4 (fun i e => (World.ownsRow.lt h i e).1)
set_option maxHeartbeats 3200000 in
set_option maxRecDepth 100000 in
theorem put_first (A : Addr) (xs : List Int) (x : Int) (n : Nat) (h0 : 0 ≤ x) (hx : x ≤ 18446744073709551615) (hn : 0 < n) (hn8 : n ≤ 8) (w : World) (hw : Ok w) (hO : BytesAt w (some A) xs) (hl : xs.length ≤ 1048576) :
    Calls Tryd.prog 39 #[.slice (some A) xs.length xs.length, .int .u64 x, .int .i64 n] w fun e w' => ∃ a d, e = .returned (.slice a (xs ++ le x n).length d) ∧ OwnB w' w.heap.size (.slice a (xs ++ le x n).length d) (xs ++ le x n) ∧ w.grownBy w' none := by
  have HO := Lib.hid hO
  have HN := Lib.hid hn
  clear hO
  go_enter Tryd.func39, Tryd.ntmps39
  go_wp2_with fail
  go_loopg [0, 1, 8] n (fun k v0 v1 v8 wc => ∃ (i : Nat) (y : Int) (zs : List Int) (a : Option Addr) (d : Nat), i + k = n ∧ v0 = .slice a zs.length d ∧ v1 = .int .u64 y ∧ v8 = .int .i64 i ∧ 0 ≤ y ∧ y ≤ 18446744073709551615 ∧ zs.length = xs.length + i ∧ Hid (zs ++ le y k = xs ++ le x n) ∧ Hid (RowF w wc A xs a d zs) ∧ Hid (w.grownBy wc none))
  case atStart => exact ⟨0, x, xs, some A, xs.length, by omega, rfl, rfl, rfl, h0, hx, by omega, Lib.hid rfl, Lib.hid (.inl ⟨rfl, rfl, rfl, HO.out⟩), Lib.hid (grown_refl w _)⟩
  case round =>
    obtain ⟨i, y, zs, a, d, hik, rfl, rfl, rfl, hy0, hy1, hzl, HE, O, G⟩ := hrel
    cases gk with
    | zero =>
      obtain rfl : i = n := by omega
      have d1 : decide ((i : Int) < (i : Int)) = false := decide_eq_false (by omega)
      have he : zs = xs ++ le x i := by have := HE.out; simpa [le] using this
      subst he
      go_wp2
      go_ret
      refine ⟨a, d, rfl, ?_, G.out⟩
      rcases O.out with ⟨_, _, h, _⟩ | h
      · have := congrArg List.length h
        rw [List.length_append, le_length] at this
        have := HN.out
        omega
      · exact h
    | succ k =>
      have d1 : decide ((i : Int) < (n : Int)) = true := decide_eq_true (by omega)
      have w8 : IntKind.u8.wrap y = y % 256 := by rw [IntKind.wrap_u8]
      obtain ⟨w3, v5, w5, hw3, hap, O5, q5⟩ := rowF_append O.out G.out (y % 256) (by omega)
      obtain ⟨g3, hg3⟩ : ∃ g, wr.heap.size = g := ⟨_, rfl⟩
      rw [hg3] at hap
      obtain ⟨a5, d5, hv5⟩ := O5.form
      subst hv5
      obtain ⟨z5, hz5⟩ : ∃ z, zs ++ [y % 256] = z := ⟨_, rfl⟩
      rw [hz5] at O5 hap
      have HZ := Lib.hid hz5
      have HO5 := Lib.hid O5
      have HQ := Lib.hid q5
      clear O5 hz5 q5
      go_wp2_with (at_builtin; refine wpList_append_run rfl _ _ 22 22 rfl (by simp [Act.eval]) (by simp [Act.eval]) hap ?_)
      go_roundg k
      case measure => omega
      case rel =>
        refine ⟨i + 1, y / 256, z5, a5, d5, by omega, rfl, rfl, by go_num, by omega, by omega, by rw [← HZ.out]; simp [hzl]; omega, Lib.hid ?_, Lib.hid (.inr HO5.out), HQ⟩
        have := HE.out
        simp only [le] at this
        rw [← HZ.out]
        simpa using this
end Go.Proofs.YtlnaeppbhjmocaaDoor
set_option linter.unusedSimpArgs false
set_option linter.unusedVariables false
namespace Go.Proofs.YtlnaeppbhjmocaaDoor
open Go.RowKit Go.Proofs Go.Proofs.YtlnaeppbhjmocaaDoorW.PrintWords Go.Proofs.YtlnaeppbhjmocaaDoorW.PrintMore

theorem edrop (l : List ByteArray) (i : Nat) (h : i < l.length) : l.drop i = l[i] :: l.drop (i + 1) := List.drop_eq_getElem_cons h
end Go.Proofs.YtlnaeppbhjmocaaDoor
set_option linter.unusedSimpArgs false
set_option linter.unusedVariables false
namespace Go.Proofs.YtlnaeppbhjmocaaDoor
open Go.RowKit Go.Proofs Go.Proofs.YtlnaeppbhjmocaaDoorW.PrintWords Go.Proofs.YtlnaeppbhjmocaaDoorW.PrintLast Go.Proofs.YtlnaeppbhjmocaaDoorW.PrintMore

theorem SRow.toC {w : World} {A : Option Addr} {L : List ByteArray} (h : SRow w A L) (hn : L.length ≤ 1099511627776) : Kd.C Kd.string w A L.length L := by
  refine ⟨rfl, by omega, fun h0 => ?_⟩
  obtain ⟨g, hA, _⟩ := h 0 h0
  refine ⟨_, hA, fun j p hj => ?_⟩
  refine ⟨[.string p], rfl, rfl, fun i u hu => ?_⟩
  have hi : i < 1 := (List.getElem?_eq_some_iff.1 hu).1
  obtain rfl : i = 0 := by omega
  simp only [List.getElem?_cons_zero, Option.some.injEq] at hu
  subst hu
  have hsz : Kd.string.sz = 1 := rfl
  rw [hsz, Lib.add_plain, Nat.mul_one, Nat.add_zero, Nat.zero_add]
  obtain ⟨hj1, hj2⟩ := List.getElem?_eq_some_iff.1 hj
  obtain ⟨g', hA', hc⟩ := h j hj1
  rw [hA] at hA'
  injection hA' with hA'
  injection hA' with hA'
  rw [hA', hc, hj2]
theorem bytes_eq (a b : ByteArray) : (a.toList = b.toList) ↔ a = b := by
  rw [toL, toL]; exact ⟨bs_ext, fun e => by rw [e]⟩
theorem follows_l0 (a b : List ByteArray) (ha : a.length ≤ 1048576) (hb : b.length ≤ 1048576) : ∀ (d k i : Nat), i + d = a.length → d + 2 ≤ k → i ≤ b.length →
    Pfollows.parcel_follows.l0 k a b (i : Int) = some (((i + sharedX (a.drop i) (b.drop i) : Nat) : Int), behindX ltB (a.drop i) (b.drop i)) := by
  intro d
  induction d with
  | zero =>
    intro k i h hk hi
    obtain ⟨k, rfl⟩ : ∃ m, k = m + 2 := ⟨k - 2, by omega⟩
    rw [Pfollows.parcel_follows.l0, if_neg (by omega), Pfollows.parcel_follows.j1, List.drop_eq_nil_of_le (show a.length ≤ i by omega)]
    by_cases hlt : i < b.length
    · rw [if_neg (by omega), if_pos (by omega), edrop b i hlt]; rfl
    · rw [if_pos (by omega), List.drop_eq_nil_of_le (by omega)]; rfl
  | succ d ih =>
    intro k i h hk hi
    obtain ⟨k, rfl⟩ : ∃ m, k = m + 2 := ⟨k - 2, by omega⟩
    rw [Pfollows.parcel_follows.l0, if_pos (by omega), edrop a i (by omega)]
    by_cases hlt : i < b.length
    · have w1 : wrap64 ((i : Int) + 1) = ((i + 1 : Nat) : Int) := by rw [wr64 ⟨by omega, by omega⟩]; omega
      rw [if_pos (by omega), if_pos (by omega), rdOf_nat a i (by omega), rdOf_nat b i hlt, edrop b i hlt, behindX, sharedX, w1]
      by_cases he : a[i] = b[i]
      · rw [if_pos ((bytes_eq _ _).2 he), if_pos he, if_pos he, ih (k + 1) (i + 1) (by omega) (by omega) (by omega)]
        congr 3
        omega
      · rw [if_neg (fun e => he ((bytes_eq _ _).1 e)), if_neg he, if_neg he, Pfollows.parcel_follows.j1, if_neg (by omega), if_neg (by omega), if_pos (by omega), if_pos (by omega), if_pos (by omega), rdOf_nat a i (by omega), rdOf_nat b i hlt]
        rfl
    · rw [if_neg (by omega), Pfollows.parcel_follows.j1, if_pos (by omega), List.drop_eq_nil_of_le (show b.length ≤ i by omega), behindX]
      rfl
theorem follows_any (A1 A2 : Option Addr) (c1 c2 : Nat) (a b : List ByteArray) (ha : a.length ≤ 1048576) (hb : b.length ≤ 1048576) (w : World) (hw : Ok w) (h1 : SRow w A1 a) (hc1 : a.length ≤ c1) (h2 : SRow w A2 b) (hc2 : b.length ≤ c2) :
    Calls Tryd.prog 48 #[.slice A1 a.length c1, .slice A2 b.length c2] w fun e w' => e = .returned (.tuple #[.int .i64 ((sharedX a b : Nat) : Int), .bool (behindX ltB a b)]) ∧ Fr w w' := by
  have hf := follows_l0 a b ha hb a.length (a.length + 2) 0 (by omega) (by omega) (Nat.zero_le _)
  rw [List.drop_zero, List.drop_zero, Nat.zero_add] at hf
  exact (Pfollows.parcel_follows.calls (a.length + 2) A1 c1 a A2 c2 b _ _ w (h1.toC (by omega)) hc1 (h2.toC (by omega)) hc2 hf).mono fun e w' ⟨he, hd⟩ => ⟨he, Fr.of hw hd.below⟩
end Go.Proofs.YtlnaeppbhjmocaaDoor
set_option linter.unusedSimpArgs false
set_option linter.unusedVariables false
namespace Go.Proofs.YtlnaeppbhjmocaaDoor
open Go.RowKit Go.Proofs Go.Shelf

theorem packX_bad {x : Lf} {r : List Lf} (h1 : x.path.data.toList = [47]) (h2 : x.ty = 2) (h : okL x = false ∨ restB [] true r = false) : packX (x :: r) = ([], 191) := by
  unfold packX
  dsimp only
  rw [if_pos ⟨h1, h2⟩, if_neg]
  rintro ⟨h3, h4⟩
  rcases h with h | h
  · rw [h3] at h; cases h
  · rw [h4] at h; cases h
def bodyP (x : Lf) (r : List Lf) : List Int := headX x ++ r.flatMap (fun y => pieceB y (nmL y)) ++ [255]
theorem packX_good {x : Lf} {r : List Lf} (h1 : x.path.data.toList = [47]) (h2 : x.ty = 2) (h3 : okL x = true) (h4 : restB [] true r = true) : packX (x :: r) = (bodyP x r ++ le (crcI (bodyP x r)) 4, 0) := by
  unfold packX bodyP
  dsimp only
  rw [if_pos ⟨h1, h2⟩, if_pos ⟨h3, h4⟩]
theorem packX_head {x : Lf} {r : List Lf} (h : ¬ (x.path.data.toList = [47] ∧ x.ty = 2)) : packX (x :: r) = ([], 190) := by
  unfold packX
  dsimp only
  rw [if_neg h]
/-- the head as it is written ahead of any test -/
def headM (x : Lf) : List Int := [80, 82, 67, 76, 1] ++ le (IntKind.u64.wrap x.mode) 2 ++ le x.stamp 8
/-- how far the pieces are told -/
def PInv (x : Lf) (r : List Lf) (i : Nat) (ys : List Int) (ahead : List ByteArray) (dir : Bool) : Prop :=
  (i = 0 ∧ ahead = [] ∧ ys = headM x) ∨ (1 ≤ i ∧ okL x = true ∧ restB ahead dir ((x :: r).drop i) = restB [] true r ∧ ys ++ ((x :: r).drop i).flatMap (fun y => pieceB y (nmL y)) = headX x ++ r.flatMap (fun y => pieceB y (nmL y)) ∧ dir = decide (((x :: r).getD (i - 1) x).ty = 2))

theorem names_R {s : List UInt8} {ns : List ByteArray} {nb : Bool} (h : namesR s = (ns, nb)) : (namesP s).isSome = nb ∧ (namesP s).getD [] = ns := by
  unfold namesR at h
  cases hq : namesP s with
  | none => rw [hq] at h; injection h with h1 h2; subst h1 h2; exact ⟨rfl, rfl⟩
  | some l => rw [hq] at h; injection h with h1 h2; subst h1 h2; exact ⟨rfl, rfl⟩
theorem pinv_drop {x : Lf} {r : List Lf} {i : Nat} {l : Lf} (hl : (x :: r)[i]? = some l) : (x :: r).drop i = l :: (x :: r).drop (i + 1) := by
  obtain ⟨h1, h2⟩ := List.getElem?_eq_some_iff.1 hl
  rw [List.drop_eq_getElem_cons h1, h2]
theorem pinv_bad {x : Lf} {r : List Lf} {i : Nat} {ys : List Int} {ahead : List ByteArray} {dir : Bool} {l : Lf} (h : PInv x r i ys ahead dir) (hl : (x :: r)[i]? = some l) (h1 : x.path.data.toList = [47]) (h2 : x.ty = 2)
    (hb : (namesP l.path.data.toList).isSome = false ∨ okL l = false ∨ (1 ≤ i ∧ stepX ltB ahead dir (nmL l) = false)) : packX (x :: r) = ([], 191) := by
  rcases h with ⟨h0, _, _⟩ | ⟨h0, _, h4, _, _⟩
  · subst h0
    have hlx : x = l := by simpa using hl
    subst hlx
    rcases hb with hb | hb | hb
    · rw [h1] at hb
      have : namesP [47] = some [] := by decide
      rw [this] at hb; cases hb
    · exact packX_bad h1 h2 (.inl hb)
    · omega
  · refine packX_bad h1 h2 (.inr ?_)
    rw [← h4, pinv_drop hl, restB]
    rcases hb with hb | hb | hb
    · rw [hb]; rfl
    · rw [hb]; simp
    · rw [hb.2]; simp
theorem pinv_first {x : Lf} {r : List Lf} {ys : List Int} {ahead : List ByteArray} {dir : Bool} (h : PInv x r 0 ys ahead dir) (h2 : x.ty = 2) (hok : okL x = true) : PInv x r 1 ys [] true ∧ ahead = [] := by
  rcases h with ⟨_, h3, h4⟩ | ⟨h0, _⟩
  · refine ⟨.inr ⟨Nat.le_refl _, hok, rfl, ?_, ?_⟩, h3⟩
    · rw [h4]
      have hm := okL_ty hok
      have e : IntKind.u64.wrap x.mode = x.mode := u64_in ⟨by omega, by omega⟩
      unfold headM headX
      rw [e]
      rfl
    · simp [h2]
  · omega
theorem pinv_next {x : Lf} {r : List Lf} {i : Nat} {ys : List Int} {ahead : List ByteArray} {dir : Bool} {l : Lf} (h : PInv x r (i + 1) ys ahead dir) (hl : (x :: r)[i + 1]? = some l)
    (hn : (namesP l.path.data.toList).isSome = true) (hok : okL l = true) (hs : stepX ltB ahead dir (nmL l) = true) : PInv x r (i + 1 + 1) (ys ++ pieceB l (nmL l)) (nmL l) (decide (l.ty = 2)) := by
  rcases h with ⟨h0, _, _⟩ | ⟨h0, h3, h4, h5, h6⟩
  · omega
  · refine .inr ⟨by omega, h3, ?_, ?_, ?_⟩
    · rw [← h4, pinv_drop hl, restB, hn, hok, hs]; rfl
    · rw [← h5, pinv_drop hl, List.flatMap_cons]; simp
    · rw [show i + 1 + 1 - 1 = i + 1 by omega, List.getD, hl]; rfl
theorem bytesOk_app {a b : List Int} (ha : bytesOk a) (hb : bytesOk b) : bytesOk (a ++ b) := fun x hx => by
  rcases List.mem_append.1 hx with h | h
  · exact ha x h
  · exact hb x h
theorem bytesOk_one {v : Int} (h : 0 ≤ v ∧ v ≤ 255) : bytesOk [v] := fun x hx => by rw [List.mem_singleton.1 hx]; exact h
theorem bytesI_ok (s : ByteArray) : bytesOk (bytesI s) := by
  intro x hx
  obtain ⟨c, _, rfl⟩ := List.mem_map.mp hx
  have := c.toNat_lt
  omega
theorem stretB_ok {L : List Int} (hL : bytesOk L) : bytesOk ((stretX L).flatMap (stretB L)) := by
  intro x hx
  obtain ⟨s, hs, hx⟩ := List.mem_flatMap.1 hx
  have hm := stretS_mem L L.length 0 (Nat.zero_le _) s hs
  unfold stretB at hx
  rcases List.mem_cons.1 hx with h | h
  · rcases hm.1 with e | e <;> (rw [h, e]; decide)
  · rcases List.mem_append.1 h with h | h
    · exact le_mem _ 4 x h
    · split at h
      · exact (hL.drop _).take _ x h
      · cases h
theorem piece_ok {l : Lf} {ns : List ByteArray} (hok : okL l = true) (hd : bytesOk l.data) (h64 : ns.length ≤ 64) (hsz : (ns.getLastD ⟨#[]⟩).size ≤ 63) : bytesOk (pieceB l ns) ∧ (pieceB l ns).length ≤ 256 + 6 * l.data.length := by
  obtain ⟨t1, t3, m0, m1, dl, dnil, gnil, gok⟩ := okL_ty hok
  have hc := stretX_len l.data
  have htg : l.ty = 3 → l.tgt.size ≤ 127 := fun e => by
    have h := gok e
    unfold targetB at h
    simp only [Bool.and_eq_true, decide_eq_true_eq] at h
    exact h.1.2
  unfold pieceB pieceH pieceT
  constructor
  · refine bytesOk_app (bytesOk_app (bytesOk_app (bytesOk_app (bytesOk_app (fun x hx => ?_) (le_mem _ _)) (le_mem _ _)) (bytesOk_one (by omega))) (bytesI_ok _)) ?_
    · rcases List.mem_cons.1 hx with h | h
      · omega
      · rw [List.mem_singleton.1 h]; omega
    · split
      · unfold cutB; exact bytesOk_app (le_mem _ _) (stretB_ok hd)
      · split
        · rename_i h3
          have := htg h3
          exact bytesOk_app (bytesOk_one (by omega)) (bytesI_ok _)
        · exact fun x hx => by cases hx
  · have h9 : (if l.ty = 1 then cutB l.data else if l.ty = 3 then [(l.tgt.size : Int)] ++ bytesI l.tgt else []).length ≤ 132 + 6 * l.data.length := by
      split
      · unfold cutB; rw [List.length_append, le_length]; omega
      · split
        · rename_i h3
          have := htg h3
          rw [List.length_append, bytesI_length]; simp; omega
        · simp
    simp only [List.length_append, List.length_cons, List.length_nil, le_length, bytesI_length]
    omega
/-- a row of names lies elsewhere than bytes of the call's own -/
theorem SRow.grown {W W' : World} {na : Option Addr} {ns : List ByteArray} {B : Nat} {a : Option Addr} {d : Nat} {ys : List Int} (h : SRow W na ns) (O : OwnB W B (.slice a ys.length d) ys) (hy : 0 < ys.length) (q : W.grownBy W' (Value.slice a ys.length d).ownBlock) : SRow W' na ns := fun i hi => by
  obtain ⟨g, hA, hc⟩ := h i hi
  refine ⟨g, hA, q.cell hc (fun e => ?_)⟩
  obtain ⟨ga, ca, hv, _, _⟩ := O.blk hy
  obtain ⟨g2, hA2, hc2⟩ := h 0 (by omega)
  rw [hA] at hA2
  injection hA2 with hA2
  injection hA2 with hA2
  subst hA2
  injection hv with e1 e2 e3
  subst e1 e3
  have e4 : g = ga := by simpa [Value.ownBlock] using e
  subst e4
  have := O.cellAt 0 hy
  rw [hc2] at this
  cases this

set_option maxRecDepth 100000 in
set_option maxHeartbeats 3200000 in
theorem pack_any (A : Option Addr) (c : Nat) (tv : List (Lf × Value)) (w : World) (hw : Ok w) (hT : LAt w A tv) (hc : tv.length ≤ c) (hn : tv.length ≤ 16777216) (hs : ∀ p ∈ tv, p.1.path.size ≤ 1048575) (hst : ∀ p ∈ tv, 0 ≤ p.1.stamp ∧ p.1.stamp ≤ 18446744073709551615)
    (hW : (tv.map fun p => 256 + 6 * p.1.data.length).sum ≤ 536870912) (hbd : ∀ p ∈ tv, bytesOk p.1.data) (hB0 : 0 < w.heap.size) :
    Calls Tryd.prog 21 #[.slice A tv.length c] w fun e w' => ∃ v, e = .returned (.tuple #[v, .int .i64 (packX (tv.map Prod.fst)).2]) ∧ OwnB w' w.heap.size v (packX (tv.map Prod.fst)).1 ∧ Fr w w' := by
  cases tv with
  | nil =>
    go_enter Tryd.func21, Tryd.ntmps21
    go_wp2_with fail
    exact ⟨rfl, _, results_tmp2 rfl _ _ _, _, rfl, OwnB.nil _ _, Fr.refl hw⟩
  | cons p tl =>
    obtain ⟨n, hn'⟩ : ∃ n, (p :: tl).length = n := ⟨_, rfl⟩
    have hnt : n = tl.length + 1 := by rw [← hn']; simp
    obtain ⟨g, o, hA, hg, hcells⟩ := hT.1.resolve_left (by simp)
    subst hA
    obtain ⟨PP, hPP⟩ : ∃ PP, packX ((p :: tl).map Prod.fst) = PP := ⟨_, rfl⟩
    rw [hPP]
    rw [List.map_cons] at hPP
    rw [hn'] at hc hn ⊢
    have hcell : ∀ i q, (p :: tl)[i]? = some q → ∀ j v, (lcell q)[j]? = some v → w.cell? ⟨g, o + i * 6 + j, none⟩ = some v := fun i q hi j v hv => hcells i (lcell q) (by rw [List.getElem?_map, hi]; rfl) j v (by
      have h1 := (List.getElem?_eq_some_iff.1 hv).1
      have h2 : (lcell q).length = 6 := rfl
      omega) hv
    obtain ⟨x, pv⟩ := p
    have r0 : w.cell? ⟨g, o, none⟩ = some (.string x.path) := by have := hcell 0 (x, pv) rfl 0 _ rfl; simpa using this
    have r1 : w.cell? ⟨g, o + 1, none⟩ = some (.int .i64 x.ty) := by have := hcell 0 (x, pv) rfl 1 _ rfl; simpa using this
    have r2 : w.cell? ⟨g, o + 2, none⟩ = some (.int .i64 x.mode) := by have := hcell 0 (x, pv) rfl 2 _ rfl; simpa using this
    have r3 : w.cell? ⟨g, o + 3, none⟩ = some (.int .u64 x.stamp) := by have := hcell 0 (x, pv) rfl 3 _ rfl; simpa using this
    have d0 : ¬ ((n : Int) = 0) := by omega
    have d1 : (0 : Int) < (n : Int) := by omega
    have HPP := Lib.hid hPP
    clear hPP
    obtain ⟨bp, hbp⟩ : ∃ b : Bool, (x.path.toList == [47]) = b := ⟨_, rfl⟩
    have hbp2 : decide (x.path.data.toList = [47]) = bp := by rw [← hbp, toL, Bool.eq_iff_iff]; simp
    cases bp with
    | false =>
      have hPe : PP = ([], 190) := by rw [← HPP.out]; exact packX_head (fun e => by rw [decide_eq_true e.1] at hbp2; cases hbp2)
      subst hPe
      clear hbp2
      go_enter Tryd.func21, Tryd.ntmps21
      go_wp2_with fail
      exact ⟨rfl, _, results_tmp2 rfl _ _ _, _, rfl, OwnB.nil _ _, Fr.refl hw⟩
    | true =>
      have hp47 : x.path.data.toList = [47] := of_decide_eq_true hbp2
      clear hbp2
      by_cases ht2 : x.ty = 2
      · have HH := Lib.hid (And.intro hp47 ht2)
        have d2 : (x.ty != 2) = false := by simp [ht2]
        clear hp47 ht2
        go_enter Tryd.func21, Tryd.ntmps21
        go_upto_region 3 with fail
        have f0 := (Fr.refl hw).drew
        obtain ⟨wk, gk, hgk, hcv, fk, hgk2, Hk⟩ := head_row f0.ok
        have hBk : BytesAt wk (some ⟨gk, 0, none⟩) [80, 82, 67, 76, 1] := by
          refine .inr ⟨gk, 0, rfl, hgk2, fun i y hy => ?_⟩
          rw [Nat.zero_add]
          refine blk_cell Hk ?_
          have hi : i < 5 := (List.getElem?_eq_some_iff.1 hy).1
          rcases (by omega : i = 0 ∨ i = 1 ∨ i = 2 ∨ i = 3 ∨ i = 4) with rfl | rfl | rfl | rfl | rfl <;> (simp at hy; subst hy; rfl)
        have hmr : 0 ≤ IntKind.u64.wrap x.mode ∧ IntKind.u64.wrap x.mode ≤ 18446744073709551615 := by rw [IntKind.wrap_u64]; omega
        have hxs := hst (x, pv) List.mem_cons_self
        dsimp only at hxs
        have fk2 := f0.trans fk
        have HP1 := put_first ⟨gk, 0, none⟩ [80, 82, 67, 76, 1] (IntKind.u64.wrap x.mode) 2 hmr.1 hmr.2 (by decide) (by decide) wk fk2.ok hBk (by decide)
        obtain ⟨y1, hy1⟩ : ∃ y, [80, 82, 67, 76, 1] ++ le (IntKind.u64.wrap x.mode) 2 = y := ⟨_, rfl⟩
        have hl1 : y1.length = 7 := by rw [← hy1, List.length_append, le_length]; rfl
        rw [hy1] at HP1
        obtain ⟨M, hM⟩ : ∃ M, IntKind.u64.wrap x.mode = M := ⟨_, rfl⟩
        rw [hM] at HP1
        have HY1 := Lib.hid hy1
        have HL1 := Lib.hid hl1
        have HMM := Lib.hid hM
        clear hy1 hl1 hmr
        refine Reg.wp_region_late (fun w' => Fr w w') 13 [2, 3, 4, 5, 6, 8, 9, 10, 11] [0, 1, 7, 12, 13] (by kernel_rfl) (by kernel_rfl) f0 ?_
        obtain ⟨wd, hwd⟩ : ∃ wd, w.drew = wd := ⟨_, rfl⟩
        rw [hwd] at f0 hcv hgk fk ⊢
        clear hwd
        iterate 9
          refine Reg.wpLateT_step (v := ?_) rfl ?_ (fun w' hS => ?_) ?_
          rotate_left
          · simp [Region.wanted]
          · have s0 := hS.cell r0
            have s2 := hS.cell r2
            have s3 := hS.cell r3
            go_simp
            try (first | rfl | exact ⟨rfl, rfl⟩)
        refine Reg.wpMainT_run (v := (.slice (some ⟨gk, 0, none⟩) 5 5)) (w' := wd.alloc (.cells #[.int .u8 80, .int .u8 82, .int .u8 67, .int .u8 76, .int .u8 1] 5)) rfl (by simp [Region.wanted]) ?_ (.inr (f0.alloc _)) ?_
        · go_simp
          try (first | rfl | exact ⟨rfl, rfl⟩)
        refine Reg.wpMainT_run (v := (.slice (some ⟨gk, 0, none⟩) 5 5)) (w' := wk) rfl (by simp [Region.wanted]) ?_ (.inr fk2) ?_
        · go_simp
          try (first | rfl | exact ⟨rfl, rfl⟩)
        refine Reg.wpMainT_enter (fn := 39) (args := #[.slice (some ⟨gk, 0, none⟩) 5 5, .int .u64 M, .int .i64 2]) rfl (by simp [Region.wanted]) ?_ HP1 ?_
        · go_simp
          try (first | rfl | exact ⟨rfl, rfl⟩)
        rintro e w2 ⟨a2, d2, rfl, O2, q2⟩
        have f2 := fk2.trans (fr_of_grown fk2.ok q2)
        refine ⟨_, rfl, .inr f2, ?_⟩
        have hlow := fk2.size
        have O2' := O2.low hlow
        have HP2 := put_any w.heap.size a2 d2 y1 x.stamp 8 hxs.1 hxs.2 (by decide) w2 f2.ok O2' f2.size (by have := HL1.out; omega)
        obtain ⟨y2, hy2⟩ : ∃ y, y1 ++ le x.stamp 8 = y := ⟨_, rfl⟩
        have hl2 : y2.length = 15 := by rw [← hy2, List.length_append, le_length]; have := HL1.out; omega
        rw [hy2] at HP2
        have HY2 := Lib.hid hy2
        have HL2 := Lib.hid hl2
        clear hy2 hl2
        refine Reg.wpMainT_enter (fn := 39) (args := #[.slice a2 y1.length d2, .int .u64 x.stamp, .int .i64 8]) rfl (by simp [Region.wanted]) ?_ HP2 ?_
        · go_simp
          try (first | rfl | exact ⟨rfl, rfl⟩)
        rintro e w3 ⟨a3, d3, rfl, O3, q3, i3⟩
        have f3 : Fr w w3 := Fr.row f2 hw q3 (fun k e => (World.ownsRow.lt O2' k e).1)
        refine ⟨_, rfl, .inr f3, ?_⟩
        refine Reg.wpMainT_run (v := (.slice a3 y2.length d3)) (w' := w3) rfl (by simp [Region.wanted]) ?_ (.inl rfl) ?_
        · go_simp
          try (first | rfl | exact ⟨rfl, rfl⟩)
        refine Reg.wpMainT_nil ?_
        simp only [List.getElem_toArray, List.getElem_cons_succ, List.getElem_cons_zero, Act.put, List.setIfInBounds_toArray, List.set_cons_zero, List.set_cons_succ]
        have HM2 : Hid (y2 = headM x) := Lib.hid (by rw [← HY2.out, ← HY1.out]; rfl)
        have hb2 : bytesOk y2 := by
          rw [HM2.out]
          unfold headM
          refine bytesOk_app (bytesOk_app (fun z hz => ?_) (le_mem _ _)) (le_mem _ _)
          simp at hz
          omega
        have HB2 := Lib.hid hb2
        have HO3 := Lib.hid O3
        have HF3 := Lib.hid f3
        clear hb2 O3 f3 q3 i3 O2 O2' q2 f2 HP2 HP1 hcv hgk Hk hBk fk fk2 f0 r0 r1 r2 r3 hlow HY1 HY2 HMM hbp
        go_wp2_with fail
        go_loopg [4, 5, 45] n (fun k v4 v5 v45 wc => ∃ (i : Nat) (ys : List Int) (a : Option Addr) (d : Nat) (ahead : List ByteArray) (na : Option Addr) (nc : Nat) (dir : Bool), i + k = n ∧ v4 = .slice a ys.length d ∧ v5 = .slice na ahead.length nc ∧ v45 = .int .i64 i ∧ ahead.length ≤ nc ∧ ahead.length ≤ 64 ∧ Hid (PInv x (tl.map Prod.fst) i ys ahead dir) ∧ Hid (OwnB wc w.heap.size (.slice a ys.length d) ys) ∧ Hid (SRow wc na ahead) ∧ Hid (Fr w wc) ∧ Hid (bytesOk ys) ∧ Hid (15 ≤ ys.length ∧ ys.length ≤ 15 + ((((x, pv) :: tl).take i).map fun p => 256 + 6 * p.1.data.length).sum))
        case atStart => exact ⟨0, y2, a3, d3, [], none, 0, true, by omega, rfl, rfl, rfl, Nat.le_refl _, by simp, Lib.hid (.inl ⟨rfl, rfl, HM2.out⟩), HO3, Lib.hid (fun i hi => by cases hi), HF3, HB2, Lib.hid (by rw [HL2.out]; simp)⟩
        case round =>
          obtain ⟨i, ys, a, d, ahead, na, nc, dir, hik, rfl, rfl, rfl, hnc, h64, HI, HO, HS, HF, HB, HL⟩ := hrel
          cases gk with
          | zero =>
            obtain rfl : i = n := by omega
            have d5 : decide ((i : Int) < (i : Int)) = false := decide_eq_false (by omega)
            obtain ⟨_, hx1, hx2, hx3, _⟩ := HI.out.resolve_left (fun e => by omega)
            have hdr : (x :: tl.map Prod.fst).drop i = [] := List.drop_eq_nil_of_le (by simp; omega)
            rw [hdr] at hx2 hx3
            have hPe : PP = (bodyP x (tl.map Prod.fst) ++ le (crcI (bodyP x (tl.map Prod.fst))) 4, 0) := by rw [← HPP.out]; exact packX_good HH.out.1 HH.out.2 hx1 (by rw [← hx2]; rfl)
            have hys : ys ++ [255] = bodyP x (tl.map Prod.fst) := by
              unfold bodyP
              rw [← hx3]
              simp
            subst hPe
            have hlen := HL.out
            rw [List.take_of_length_le (by simp; omega)] at hlen
            obtain ⟨g5, hg5⟩ : ∃ g, wr.heap.size = g := ⟨_, rfl⟩
            obtain ⟨w5, v6, w6, hw5, hap, O6, q6, i6⟩ := append_lit 22 w.heap.size a d ys [255] wr HO.out (by simp; omega) HF.out.size
            rw [hg5] at hap
            simp only [List.map_cons, List.map_nil, List.length_cons, List.length_nil, Nat.zero_add, Nat.reduceAdd] at hw5 hap
            have hbB : bytesOk (ys ++ [255]) := bytesOk_app HB.out (bytesOk_one (by decide))
            have hlB : (ys ++ [255]).length ≤ 536870928 := by rw [List.length_append]; simp; omega
            rw [hys] at O6 hbB hlB
            obtain ⟨BB, hBB⟩ : ∃ BB, bodyP x (tl.map Prod.fst) = BB := ⟨_, rfl⟩
            rw [hBB] at O6 hbB hlB
            obtain ⟨a6, d6, rfl⟩ := O6.form
            have f6 : Fr w w6 := Fr.row HF.out hw q6 (fun k e => (World.ownsRow.lt HO.out k e).1)
            have hcrr := crcI_rg hbB
            have hsum := sum_any a6 d6 BB hbB O6.at.2.2 (by omega) w6 f6.ok O6.at.1
            obtain ⟨cr, hcr⟩ : ∃ cr, crcI BB = cr := ⟨_, rfl⟩
            rw [hcr] at hsum hcrr
            have hput := put_any w.heap.size a6 d6 BB cr 4 hcrr.1 (by omega) (by decide) w6 f6.ok O6 f6.size (by omega)
            obtain ⟨ZZ, hZZ⟩ : ∃ Z, BB ++ le cr 4 = Z := ⟨_, rfl⟩
            rw [hZZ] at hput
            have HEQ : Hid (bodyP x (tl.map Prod.fst) ++ le (crcI (bodyP x (tl.map Prod.fst))) 4 = ZZ) := Lib.hid (by rw [hBB, hcr, hZZ])
            have e9 : IntKind.u64.wrap cr = cr := u64_in ⟨by omega, by omega⟩
            have HF6 := Lib.hid (And.intro f6 O6)
            have HSum := Lib.hid hsum
            have HPut := Lib.hid hput
            clear hsum hput f6 O6 hys hdr hx2 hx3 hbB hlB hlen hcrr hcr hZZ hBB q6 i6
            go_wp2_with (first
              | (at_builtin; refine wpList_append_run rfl _ _ 22 22 rfl (by simp [Act.eval]) (by simp [Act.eval]) hap ?_)
              | (go_at_call 40; refine HSum.out.mono ?_; rintro e w7 ⟨rfl, he⟩; replace he := he.symm; subst he)
              | (go_at_call 39; refine HPut.out.mono ?_; rintro e w8 ⟨a8, d8, rfl, O8, q8, i8⟩))
            refine ⟨rfl, _, results_tmp2 rfl _ _ _, _, rfl, ?_, Fr.row HF6.out.1 hw q8 (fun k e => (World.ownsRow.lt HF6.out.2 k e).1)⟩
            rw [HEQ.out]
            exact O8
          | succ k =>
            have d5 : decide ((i : Int) < (n : Int)) = true := decide_eq_true (by omega)
            have d6 : (0 : Int) ≤ (i : Int) := by omega
            have d7 : (i : Int) < (n : Int) := by omega
            obtain ⟨⟨l, lv⟩, hq⟩ : ∃ q, ((x, pv) :: tl)[i]? = some q := ⟨_, List.getElem?_eq_getElem (by omega)⟩
            have hmem := List.mem_of_getElem? hq
            obtain ⟨da, dd, hlv, hBD, hdd, hdn⟩ := hT.2 _ hmem
            dsimp only at hlv hBD hdd
            subst hlv
            have b0 := HF.out.cell (hcell i _ hq 0 _ rfl)
            have b1 := HF.out.cell (hcell i _ hq 1 _ rfl)
            have b2 := HF.out.cell (hcell i _ hq 2 _ rfl)
            have b3 := HF.out.cell (hcell i _ hq 3 _ rfl)
            have b4 := HF.out.cell (hcell i _ hq 4 _ rfl)
            have b5 := HF.out.cell (hcell i _ hq 5 _ rfl)
            simp only [Nat.add_zero] at b0
            obtain ⟨w1, g1, hg1, hw1, f1, hz1, H1⟩ := boxedN HF.out.ok #[.string l.path, .int .i64 l.ty, .int .i64 l.mode, .int .u64 l.stamp, .slice da l.data.length dd, .string l.tgt] 45
            obtain ⟨l0, l1, l2, l3, l4, l5⟩ := blk6 H1
            have hps := hs _ hmem
            dsimp only at hps
            have HN : Hid (∀ W, Fr w1 W → Calls Tryd.prog 46 #[.string l.path] W fun e w' => ∃ A c, e = .returned (.tuple #[.slice A (namesR l.path.data.toList).1.length c, .bool (namesR l.path.data.toList).2]) ∧ SRow w' A (namesR l.path.data.toList).1 ∧ (namesR l.path.data.toList).1.length ≤ c ∧ Fr W w') := Lib.hid (fun W q => by
              have h := namesOf_any l.path.data.toList (by have : l.path.data.toList.length = l.path.size := rfl; omega) W q.ok
              rwa [show (⟨l.path.data.toList.toArray⟩ : ByteArray) = l.path from by simp] at h)
            have HG : Hid (∀ W, Fr w1 W → Calls Tryd.prog 47 #[.agg #[.string l.path, .int .i64 l.ty, .int .i64 l.mode, .int .u64 l.stamp, .slice da l.data.length dd, .string l.tgt]] W fun e w' => e = .returned (.bool (okL l)) ∧ Fr W w') := Lib.hid (fun W q => good_any l.path l.ty l.mode l.stamp da l.data.length dd l.tgt W q.ok)
            obtain ⟨ok, hok⟩ : ∃ b, okL l = b := ⟨_, rfl⟩
            rw [hok] at HG
            obtain ⟨⟨ns, nb⟩, hns⟩ : ∃ q, namesR l.path.data.toList = q := ⟨_, rfl⟩
            rw [hns] at HN
            dsimp only at HN
            have HNS := Lib.hid hns
            have HOK := Lib.hid hok
            have HQ := Lib.hid hq
            clear hns hok hq hcells
            have HCell := Lib.hid hcell
            clear hcell
            have hql : (x :: tl.map Prod.fst)[i]? = some l := by
              have := congrArg (Option.map Prod.fst) HQ.out
              rw [← List.getElem?_map] at this
              simpa using this
            have HQL := Lib.hid hql
            clear hql
            cases nb with
            | false =>
              have hPe : PP = ([], 191) := by rw [← HPP.out]; exact pinv_bad HI.out HQL.out HH.out.1 HH.out.2 (.inl (names_R HNS.out).1)
              subst hPe
              go_wp2_with (first
                | (go_at_call 46; refine (HN.out _ (Fr.refl f1.ok)).mono ?_; rintro e w2 ⟨A2, c2, rfl, S2, hc2, q⟩))
              go_ret2
              exact ⟨_, rfl, OwnB.nil _ _, (HF.out.trans f1).trans q⟩
            | true =>
              cases ok with
              | false =>
                have hPe : PP = ([], 191) := by rw [← HPP.out]; exact pinv_bad HI.out HQL.out HH.out.1 HH.out.2 (.inr (.inl HOK.out))
                subst hPe
                go_wp2_with (first
                  | (go_at_call 46; refine (HN.out _ (Fr.refl f1.ok)).mono ?_; rintro e w2 ⟨A2, c2, rfl, S2, hc2, q⟩; replace l0 := q.cell l0; replace l1 := q.cell l1; replace l2 := q.cell l2; replace l3 := q.cell l3; replace l4 := q.cell l4; replace l5 := q.cell l5)
                  | (go_at_call 47; refine (HG.out _ q).mono ?_; rintro e w3 ⟨rfl, q3⟩))
                go_ret2
                exact ⟨_, rfl, OwnB.nil _ _, ((HF.out.trans f1).trans q).trans q3⟩
              | true =>
                have hnk := names_R HNS.out
                rcases Nat.eq_zero_or_pos i with hi0 | hi0
                · subst hi0
                  simp only [Nat.zero_mul, Nat.add_zero] at b0 b1 b2 b3 b4 b5
                  have hlx : x = l := by simpa using HQL.out
                  have hnx := pinv_first HI.out HH.out.2 (by rw [hlx]; exact HOK.out)
                  obtain rfl := hnx.2
                  have hnx := hnx.1
                  have HNX := Lib.hid hnx
                  clear hnx hlx
                  go_wp2_with (first
                    | (go_at_call 46; refine (HN.out _ (Fr.refl f1.ok)).mono ?_; rintro e w2 ⟨A2, c2, rfl, S2, hc2, q⟩; replace l0 := q.cell l0; replace l1 := q.cell l1; replace l2 := q.cell l2; replace l3 := q.cell l3; replace l4 := q.cell l4; replace l5 := q.cell l5)
                    | (go_at_call 47; refine (HG.out _ q).mono ?_; rintro e w3 ⟨rfl, q3⟩))
                  have fall := ((HF.out.trans f1).trans q).trans q3
                  have fr3 := (f1.trans q).trans q3
                  go_roundg k
                  case measure => omega
                  case rel =>
                    refine ⟨1, ys, a, d, [], na, nc, true, by omega, rfl, rfl, by go_num, by simp, by simp, HNX, Lib.hid (OwnB.fr HO.out fr3), Lib.hid (fun i hi => by cases hi), Lib.hid fall, HB, Lib.hid ?_⟩
                    have := HL.out
                    simp at this
                    refine ⟨this.1, ?_⟩
                    simp
                    omega
                · have d8 : ¬ ((i : Int) = 0) := by omega
                  obtain ⟨j, hj⟩ : ∃ j, j + 1 = i := ⟨i - 1, by omega⟩
                  have e8 : IntKind.i64.wrap ((i : Int) - 1) = (j : Int) := by rw [IntWalk.i64_in _ ⟨by omega, by omega⟩]; omega
                  have d9 : (0 : Int) ≤ (j : Int) := by omega
                  have d10 : (j : Int) < (n : Int) := by omega
                  obtain ⟨m, hm⟩ : ∃ m, ns.length = m := ⟨_, rfl⟩
                  rw [hm] at HN
                  have hm64 : m ≤ 64 := by
                    rw [← hm, ← hnk.2]
                    cases hq : namesP l.path.data.toList with
                    | none => simp
                    | some q => exact (namesP_good hq).2.2.1
                  have HFo : Hid (∀ W A2 c2, Fr w1 W → SRow W A2 ns → m ≤ c2 → Calls Tryd.prog 48 #[.slice na ahead.length nc, .slice A2 m c2] W fun e w' => e = .returned (.tuple #[.int .i64 ((sharedX ahead ns : Nat) : Int), .bool (behindX ltB ahead ns)]) ∧ Fr W w') := Lib.hid (fun W A2 c2 q s h => by
                    have := follows_any na A2 nc c2 ahead ns (by omega) (by omega) W q.ok (HS.out.fr (f1.trans q)) hnc s (by rw [hm]; exact h)
                    rwa [hm] at this)
                  obtain ⟨sh, hsh⟩ : ∃ s, sharedX ahead ns = s := ⟨_, rfl⟩
                  obtain ⟨bh, hbh⟩ : ∃ s, behindX ltB ahead ns = s := ⟨_, rfl⟩
                  rw [hsh, hbh] at HFo
                  have e9 : IntKind.i64.wrap ((m : Int) - 1) = (m : Int) - 1 := IntWalk.i64_in _ ⟨by omega, by omega⟩
                  have hshl := shared_le ahead ns
                  have HM := Lib.hid hm
                  have HJ := Lib.hid hj
                  have HSB := Lib.hid (And.intro hsh hbh)
                  obtain ⟨⟨lj, vj⟩, hqj⟩ : ∃ q, ((x, pv) :: tl)[j]? = some q := ⟨_, List.getElem?_eq_getElem (by omega)⟩
                  have cj := (HF.out.trans f1).cell (HCell.out j _ hqj 1 _ rfl)
                  have hdir : dir = decide (lj.ty = 2) := by
                    rcases HI.out with ⟨h0, _⟩ | ⟨_, _, _, _, h6⟩
                    · omega
                    · rw [h6, show i - 1 = j by omega]
                      have h7 := congrArg (Option.map Prod.fst) hqj
                      rw [← List.getElem?_map] at h7
                      have h8 : (x :: tl.map Prod.fst)[j]? = some lj := by simpa using h7
                      rw [List.getD, h8]
                      rfl
                  have hstep : stepX ltB ahead dir (nmL l) = (bh && decide (m - 1 ≤ sh) && (decide (m - 1 ≠ ahead.length) || decide (lj.ty = 2))) := by
                    have e : nmL l = ns := hnk.2
                    unfold stepX
                    rw [e, hbh, hsh, hm, hdir]
                  have HStep := Lib.hid hstep
                  clear hm hj hsh hbh hqj hdir hstep
                  have hno : ∀ (h : stepX ltB ahead dir (nmL l) = false), PP = ([], 191) := fun h => by rw [← HPP.out]; exact pinv_bad HI.out HQL.out HH.out.1 HH.out.2 (.inr (.inr ⟨hi0, h⟩))
                  have HNo := Lib.hid hno
                  clear hno
                  cases bh with
                  | false =>
                    obtain rfl := HNo.out (by rw [HStep.out]; rfl)
                    go_wp2_with (first
                      | (go_at_call 46; refine (HN.out _ (Fr.refl f1.ok)).mono ?_; rintro e w2 ⟨A2, c2, rfl, S2, hc2, q⟩; replace l0 := q.cell l0; replace l1 := q.cell l1; replace l2 := q.cell l2; replace l3 := q.cell l3; replace l4 := q.cell l4; replace l5 := q.cell l5)
                      | (go_at_call 47; refine (HG.out _ q).mono ?_; rintro e w3 ⟨rfl, q3⟩)
                      | (go_at_call 48; refine (HFo.out _ A2 c2 (q.trans q3) (S2.fr q3) hc2).mono ?_; rintro e w4 ⟨rfl, q4⟩))
                    go_ret2
                    exact ⟨_, rfl, OwnB.nil _ _, (((HF.out.trans f1).trans q).trans q3).trans q4⟩
                  | true =>
                    have hne : ns ≠ [] := behind_ne ltB HSB.out.2
                    obtain ⟨u, hu⟩ : ∃ u, u + 1 = m := ⟨m - 1, by have := HM.out; have := List.length_pos_iff.mpr hne; omega⟩
                    replace e9 : IntKind.i64.wrap ((m : Int) - 1) = (u : Int) := by rw [e9]; omega
                    have hu1 : m - 1 = u := by omega
                    rw [hu1] at HStep
                    have HU := Lib.hid hu
                    clear hu hu1
                    by_cases k1 : sh < u
                    · obtain rfl := HNo.out (by rw [HStep.out, decide_eq_false (by omega : ¬ u ≤ sh)]; rfl)
                      have k1' : (sh : Int) < (u : Int) := by omega
                      go_wp2_with (first
                        | (go_at_call 46; refine (HN.out _ (Fr.refl f1.ok)).mono ?_; rintro e w2 ⟨A2, c2, rfl, S2, hc2, q⟩; replace l0 := q.cell l0; replace l1 := q.cell l1; replace l2 := q.cell l2; replace l3 := q.cell l3; replace l4 := q.cell l4; replace l5 := q.cell l5)
                        | (go_at_call 47; refine (HG.out _ q).mono ?_; rintro e w3 ⟨rfl, q3⟩)
                        | (go_at_call 48; refine (HFo.out _ A2 c2 (q.trans q3) (S2.fr q3) hc2).mono ?_; rintro e w4 ⟨rfl, q4⟩))
                      go_ret2
                      exact ⟨_, rfl, OwnB.nil _ _, (((HF.out.trans f1).trans q).trans q3).trans q4⟩
                    · have k1' : (u : Int) ≤ (sh : Int) := by omega
                      have hpiece : Hid (∀ W A2 c2, Fr w1 W → SRow W A2 ns → m ≤ c2 → okL l = true → Calls Tryd.prog 49 #[.slice a ys.length d, .agg #[.string l.path, .int .i64 l.ty, .int .i64 l.mode, .int .u64 l.stamp, .slice da l.data.length dd, .string l.tgt], .slice A2 m c2] W fun e w' => ∃ a' d', e = .returned (.slice a' (ys ++ pieceB l ns).length d') ∧ OwnB w' w.heap.size (.slice a' (ys ++ pieceB l ns).length d') (ys ++ pieceB l ns) ∧ W.grownBy w' (Value.slice a ys.length d).ownBlock ∧ Ownish W (Value.slice a ys.length d).ownBlock (Value.slice a' (ys ++ pieceB l ns).length d').ownBlock) := Lib.hid (fun W A2 c2 q s h hk => by
                        have f := HF.out.trans (f1.trans q)
                        have := piece_any w.heap.size a d ys l da dd ns A2 c2 W q.ok (OwnB.fr HO.out (f1.trans q)) f.size hB0 (hBD.fr f) hdd (fun a' e => by
                          unfold datA at e
                          split at e
                          · cases e
                          · rename_i h0
                            rcases hBD with hBD | ⟨gd, od, e2, hgd, _⟩
                            · exact absurd hBD h0
                            · rw [e2] at e; injection e with e; subst e; exact hgd) hdn s.off hne (by rw [HM.out]; exact hm64) (by rw [HM.out]; exact h) hk (hst _ hmem) (by
                          have e : (namesP l.path.data.toList) = some ns := by
                            have h1 := hnk.1; have h2 := hnk.2
                            cases hq : namesP l.path.data.toList with
                            | none => rw [hq] at h1; cases h1
                            | some q => rw [hq] at h2; rw [← h2]; rfl
                          have hg := (namesP_good e).2.1
                          have hl : ns.getLastD ⟨#[]⟩ ∈ ns := by
                            rw [List.getLastD_eq_getLast?, List.getLast?_eq_some_getLast hne]
                            exact List.getLast_mem hne
                          exact (nameB_all (hg _ hl)).2.2.2.1) (by
                          have h1 := HL.out.2
                          have h2 : ((((x, pv) :: tl).take i).map fun p => 256 + 6 * p.1.data.length).sum ≤ (((x, pv) :: tl).map fun p => 256 + 6 * p.1.data.length).sum := by
                            conv => rhs; rw [← List.take_append_drop i ((x, pv) :: tl)]
                            rw [List.map_append, List.sum_append]
                            omega
                          omega)
                        rwa [HM.out] at this)
                      obtain ⟨zs, hzs⟩ : ∃ z, ys ++ pieceB l ns = z := ⟨_, rfl⟩
                      rw [hzs] at hpiece
                      have HZs := Lib.hid hzs
                      clear hzs
                      by_cases k2 : u = ahead.length
                      · subst k2
                        by_cases k3 : lj.ty = 2
                        · have k3' : (lj.ty != 2) = false := by simp [k3]
                          have HK := Lib.hid (And.intro k1 k3)
                          clear k3 k1
                          go_wp2_with (first
                            | (go_at_call 46; refine (HN.out _ (Fr.refl f1.ok)).mono ?_; rintro e w2 ⟨A2, c2, rfl, S2, hc2, q⟩; replace l0 := q.cell l0; replace l1 := q.cell l1; replace l2 := q.cell l2; replace l3 := q.cell l3; replace l4 := q.cell l4; replace l5 := q.cell l5; replace cj := q.cell cj)
                            | (go_at_call 47; refine (HG.out _ q).mono ?_; rintro e w3 ⟨rfl, q3⟩; replace l0 := q3.cell l0; replace l1 := q3.cell l1; replace l2 := q3.cell l2; replace l3 := q3.cell l3; replace l4 := q3.cell l4; replace l5 := q3.cell l5; replace cj := q3.cell cj)
                            | (go_at_call 48; refine (HFo.out _ A2 c2 (q.trans q3) (S2.fr q3) hc2).mono ?_; rintro e w4 ⟨rfl, q4⟩; replace l0 := q4.cell l0; replace l1 := q4.cell l1; replace l2 := q4.cell l2; replace l3 := q4.cell l3; replace l4 := q4.cell l4; replace l5 := q4.cell l5; replace cj := q4.cell cj)
                            | (go_at_call 49; refine (hpiece.out _ A2 c2 ((q.trans q3).trans q4) ((S2.fr q3).fr q4) hc2 HOK.out).mono ?_; rintro e w5 ⟨a5, d5, rfl, O5, q5, i5⟩))
                          have fall := HF.out.trans (f1.trans ((q.trans q3).trans q4))
                          have fr4 := f1.trans ((q.trans q3).trans q4)
                          have O4 := OwnB.fr HO.out fr4
                          have hyp := HL.out.1
                          have S5 : SRow w5 A2 ns := SRow.grown ((S2.fr q3).fr q4) O4 (by omega) q5
                          have f5 : Fr w w5 := Fr.row fall hw q5 (fun k e => (World.ownsRow.lt O4 k e).1)
                          have hnm : nmL l = ns := hnk.2
                          have hsome : (namesP l.path.data.toList) = some ns := by
                            have h1 := hnk.1; have h2 := hnk.2
                            cases hq : namesP l.path.data.toList with
                            | none => rw [hq] at h1; cases h1
                            | some q => rw [hq] at h2; rw [← h2]; rfl
                          have hlast : (ns.getLastD ⟨#[]⟩).size ≤ 63 := by
                            have hg := (namesP_good hsome).2.1
                            have hl : ns.getLastD ⟨#[]⟩ ∈ ns := by
                              rw [List.getLastD_eq_getLast?, List.getLast?_eq_some_getLast hne]
                              exact List.getLast_mem hne
                            exact (nameB_all (hg _ hl)).2.2.2.1
                          have hpk := piece_ok HOK.out (hbd _ hmem) (by rw [HM.out]; exact hm64) hlast
                          have hnext : PInv x (tl.map Prod.fst) (i + 1) zs ns (decide (l.ty = 2)) := by
                            have h9 := HI.out
                            have hql := HQL.out
                            rw [← HJ.out] at h9 hql ⊢
                            have := pinv_next h9 hql hnk.1 HOK.out (by rw [HStep.out]; rw [decide_eq_true (by have := HK.out.1; omega), decide_eq_true HK.out.2]; simp)
                            rw [hnm, HZs.out] at this
                            exact this
                          have hlen2 : 15 ≤ zs.length ∧ zs.length ≤ 15 + ((((x, pv) :: tl).take (i + 1)).map fun p => 256 + 6 * p.1.data.length).sum := by
                            have h1 := HL.out
                            have h2 : ((x, pv) :: tl).take (i + 1) = ((x, pv) :: tl).take i ++ [(l, .slice da l.data.length dd)] := by
                              have h3 := HQ.out
                              rw [List.take_add_one, h3]
                              rfl
                            rw [h2, List.map_append, List.sum_append, ← HZs.out, List.length_append]
                            have h4 := hpk.2
                            simp only [List.map_cons, List.map_nil, List.sum_cons, List.sum_nil]
                            omega
                          have HB5 : bytesOk zs := by rw [← HZs.out]; exact bytesOk_app HB.out hpk.1
                          have HR5 := Lib.hid (And.intro hnext (And.intro O5 (And.intro S5 (And.intro f5 (And.intro HB5 hlen2)))))
                          clear hnext O5 S5 f5 HB5 hlen2 hpk hlast hsome hnm O4 fr4 fall q5 i5
                          go_roundg k
                          case measure => omega
                          case rel =>
                            obtain ⟨z1, z2, z3, z4, z5, z6⟩ := HR5.out
                            exact ⟨i + 1, zs, a5, d5, ns, A2, c2, decide (l.ty = 2), by omega, rfl, by rw [HM.out], by go_num, by rw [HM.out]; exact hc2, by rw [HM.out]; exact hm64, Lib.hid z1, Lib.hid z2, Lib.hid z3, Lib.hid z4, Lib.hid z5, Lib.hid z6⟩
                        · have k3' : (lj.ty != 2) = true := by simp [k3]
                          obtain rfl := HNo.out (by rw [HStep.out, decide_eq_false k3]; simp)
                          clear k3
                          go_wp2_with (first
                            | (go_at_call 46; refine (HN.out _ (Fr.refl f1.ok)).mono ?_; rintro e w2 ⟨A2, c2, rfl, S2, hc2, q⟩; replace l0 := q.cell l0; replace l1 := q.cell l1; replace l2 := q.cell l2; replace l3 := q.cell l3; replace l4 := q.cell l4; replace l5 := q.cell l5; replace cj := q.cell cj)
                            | (go_at_call 47; refine (HG.out _ q).mono ?_; rintro e w3 ⟨rfl, q3⟩; replace l0 := q3.cell l0; replace l1 := q3.cell l1; replace l2 := q3.cell l2; replace l3 := q3.cell l3; replace l4 := q3.cell l4; replace l5 := q3.cell l5; replace cj := q3.cell cj)
                            | (go_at_call 48; refine (HFo.out _ A2 c2 (q.trans q3) (S2.fr q3) hc2).mono ?_; rintro e w4 ⟨rfl, q4⟩; replace l0 := q4.cell l0; replace l1 := q4.cell l1; replace l2 := q4.cell l2; replace l3 := q4.cell l3; replace l4 := q4.cell l4; replace l5 := q4.cell l5; replace cj := q4.cell cj))
                          go_ret2
                          exact ⟨_, rfl, OwnB.nil _ _, (((HF.out.trans f1).trans q).trans q3).trans q4⟩
                      · have k2' : ¬ ((u : Int) = (ahead.length : Int)) := by omega
                        have HK := Lib.hid (And.intro k1 k2)
                        clear k1 k2
                        go_wp2_with (first
                          | (go_at_call 46; refine (HN.out _ (Fr.refl f1.ok)).mono ?_; rintro e w2 ⟨A2, c2, rfl, S2, hc2, q⟩; replace l0 := q.cell l0; replace l1 := q.cell l1; replace l2 := q.cell l2; replace l3 := q.cell l3; replace l4 := q.cell l4; replace l5 := q.cell l5; replace cj := q.cell cj)
                          | (go_at_call 47; refine (HG.out _ q).mono ?_; rintro e w3 ⟨rfl, q3⟩; replace l0 := q3.cell l0; replace l1 := q3.cell l1; replace l2 := q3.cell l2; replace l3 := q3.cell l3; replace l4 := q3.cell l4; replace l5 := q3.cell l5; replace cj := q3.cell cj)
                          | (go_at_call 48; refine (HFo.out _ A2 c2 (q.trans q3) (S2.fr q3) hc2).mono ?_; rintro e w4 ⟨rfl, q4⟩; replace l0 := q4.cell l0; replace l1 := q4.cell l1; replace l2 := q4.cell l2; replace l3 := q4.cell l3; replace l4 := q4.cell l4; replace l5 := q4.cell l5; replace cj := q4.cell cj)
                          | (go_at_call 49; refine (hpiece.out _ A2 c2 ((q.trans q3).trans q4) ((S2.fr q3).fr q4) hc2 HOK.out).mono ?_; rintro e w5 ⟨a5, d5, rfl, O5, q5, i5⟩))
                        have fall := HF.out.trans (f1.trans ((q.trans q3).trans q4))
                        have fr4 := f1.trans ((q.trans q3).trans q4)
                        have O4 := OwnB.fr HO.out fr4
                        have hyp := HL.out.1
                        have S5 : SRow w5 A2 ns := SRow.grown ((S2.fr q3).fr q4) O4 (by omega) q5
                        have f5 : Fr w w5 := Fr.row fall hw q5 (fun k e => (World.ownsRow.lt O4 k e).1)
                        have hnm : nmL l = ns := hnk.2
                        have hsome : (namesP l.path.data.toList) = some ns := by
                          have h1 := hnk.1; have h2 := hnk.2
                          cases hq : namesP l.path.data.toList with
                          | none => rw [hq] at h1; cases h1
                          | some q => rw [hq] at h2; rw [← h2]; rfl
                        have hlast : (ns.getLastD ⟨#[]⟩).size ≤ 63 := by
                          have hg := (namesP_good hsome).2.1
                          have hl : ns.getLastD ⟨#[]⟩ ∈ ns := by
                            rw [List.getLastD_eq_getLast?, List.getLast?_eq_some_getLast hne]
                            exact List.getLast_mem hne
                          exact (nameB_all (hg _ hl)).2.2.2.1
                        have hpk := piece_ok HOK.out (hbd _ hmem) (by rw [HM.out]; exact hm64) hlast
                        have hnext : PInv x (tl.map Prod.fst) (i + 1) zs ns (decide (l.ty = 2)) := by
                          have h9 := HI.out
                          have hql := HQL.out
                          rw [← HJ.out] at h9 hql ⊢
                          have := pinv_next h9 hql hnk.1 HOK.out (by rw [HStep.out]; rw [decide_eq_true (by have := HK.out.1; omega), decide_eq_true HK.out.2]; rfl)
                          rw [hnm, HZs.out] at this
                          exact this
                        have hlen2 : 15 ≤ zs.length ∧ zs.length ≤ 15 + ((((x, pv) :: tl).take (i + 1)).map fun p => 256 + 6 * p.1.data.length).sum := by
                          have h1 := HL.out
                          have h2 : ((x, pv) :: tl).take (i + 1) = ((x, pv) :: tl).take i ++ [(l, .slice da l.data.length dd)] := by
                            have h3 := HQ.out
                            rw [List.take_add_one, h3]
                            rfl
                          rw [h2, List.map_append, List.sum_append, ← HZs.out, List.length_append]
                          have h4 := hpk.2
                          simp only [List.map_cons, List.map_nil, List.sum_cons, List.sum_nil]
                          omega
                        have HB5 : bytesOk zs := by rw [← HZs.out]; exact bytesOk_app HB.out hpk.1
                        have HR5 := Lib.hid (And.intro hnext (And.intro O5 (And.intro S5 (And.intro f5 (And.intro HB5 hlen2)))))
                        clear hnext O5 S5 f5 HB5 hlen2 hpk hlast hsome hnm O4 fr4 fall q5 i5
                        go_roundg k
                        case measure => omega
                        case rel =>
                          obtain ⟨z1, z2, z3, z4, z5, z6⟩ := HR5.out
                          exact ⟨i + 1, zs, a5, d5, ns, A2, c2, decide (l.ty = 2), by omega, rfl, by rw [HM.out], by go_num, by rw [HM.out]; exact hc2, by rw [HM.out]; exact hm64, Lib.hid z1, Lib.hid z2, Lib.hid z3, Lib.hid z4, Lib.hid z5, Lib.hid z6⟩
      · have hPe : PP = ([], 190) := by rw [← HPP.out]; exact packX_head (fun e => ht2 e.2)
        subst hPe
        have d2 : (x.ty != 2) = true := by simp [ht2]
        clear hp47
        go_enter Tryd.func21, Tryd.ntmps21
        go_wp2_with fail
        exact ⟨rfl, _, results_tmp2 rfl _ _ _, _, rfl, OwnB.nil _ _, Fr.refl hw⟩
end Go.Proofs.YtlnaeppbhjmocaaDoor
