/- ParcelPacks: for all arguments whose bulk is at most 1048576 the law returns true. The row and its card. -/
import Derived.Test.YtlnaeppbhjmocaaDoorT12
import Derived.Below
import Derived.OpenShut
import Derived.Deep.DeepHandedRow
import Derived.ProofKit
import Derived.Deep.DeepWitnessRowRef
import Derived.MakeChecks
set_option linter.unusedSectionVars false
set_option linter.unnecessarySimpa false
set_option linter.unusedSimpArgs false
set_option linter.unusedVariables false
set_option linter.unusedSimpArgs false
set_option linter.unusedVariables false
namespace Go.Proofs.YtlnaeppbhjmocaaDoor
open Go.RowKit Go.Proofs

end Go.Proofs.YtlnaeppbhjmocaaDoor
set_option linter.unusedSimpArgs false
set_option linter.unusedVariables false
namespace Go.Proofs.YtlnaeppbhjmocaaDoor
open Go.RowKit Go.Proofs

end Go.Proofs.YtlnaeppbhjmocaaDoor
set_option linter.unusedSimpArgs false
set_option linter.unusedVariables false
namespace Go.Proofs.YtlnaeppbhjmocaaDoor
open Go.RowKit Go.Proofs

end Go.Proofs.YtlnaeppbhjmocaaDoor
set_option linter.unusedSimpArgs false
set_option linter.unusedVariables false
namespace Go.Proofs.YtlnaeppbhjmocaaDoor
open Go.RowKit Go.Proofs

theorem name_size {x : ByteArray} (h : nameB x = true) : 1 ≤ x.size ∧ x.size ≤ 63 ∧ isUp x = false := by
  unfold nameB at h
  simp only [Bool.and_eq_true, decide_eq_true_eq] at h
  refine ⟨h.1.1.1.1, h.1.1.1.2, ?_⟩
  have := h.1.2
  unfold isUp
  rw [beq_eq_false_iff_ne]
  simpa using this
end Go.Proofs.YtlnaeppbhjmocaaDoor
set_option linter.unusedSimpArgs false
set_option linter.unusedVariables false
namespace Go.Proofs.YtlnaeppbhjmocaaDoor
open Go.RowKit Go.Proofs Go.Proofs.YtlnaeppbhjmocaaDoorW.PrintWords Go.Proofs.YtlnaeppbhjmocaaDoorW.PrintMore

/-- one byte of a row of one's own is another -/
theorem OwnB.set {w : World} {B g n c : Nat} {xs : List Int} (h : OwnB w B (.slice (some ⟨g, 0, none⟩) n c) xs) (k : Nat) (z : Int) : OwnB (w.setCell ⟨g, k, none⟩ (.int .u8 z)) B (.slice (some ⟨g, 0, none⟩) n c) (xs.set k z) := by
  obtain ⟨h1, h2⟩ := h
  refine ⟨by simp, ?_⟩
  rcases h2 with ⟨hv, _⟩ | ⟨g', cap, cur, hv, hb, hg, hn, hm, hs, ht⟩
  · cases hv
  · injection hv with e1 e2 e3
    injection e1 with e1
    injection e1 with e1
    subst e1 e2 e3
    refine .inr ⟨g, c, cur.setIfInBounds k (.int .u8 z), by rw [List.length_set], hb, ?_, by rw [List.length_set]; exact hn, hm, by simpa using hs, ?_⟩
    · simp [World.setCell, Array.getElem?_modify, hg]
    · rw [Array.toList_setIfInBounds, List.length_set, List.take_set, ht, List.map_set]
end Go.Proofs.YtlnaeppbhjmocaaDoor
set_option linter.unusedSimpArgs false
set_option linter.unusedVariables false
namespace Go.Proofs.YtlnaeppbhjmocaaDoor
open Go.RowKit Go.Proofs Go.Proofs.YtlnaeppbhjmocaaDoorW.PrintWords Go.Proofs.YtlnaeppbhjmocaaDoorW.PrintMore

/-- a tree that was read, as one that is handed in -/
theorem TreeAt.toLAt {w : World} {B : Nat} {v : Value} {lfs : List Lf} (h : TreeAt w B v lfs) : ∃ a tv c, v = .slice a tv.length c ∧ tv.map Prod.fst = lfs ∧ LAt w a tv ∧ tv.length ≤ c := by
  obtain ⟨a, tv, c, rfl, h1, h2, h3⟩ := h
  refine ⟨a, tv, c, rfl, h1, ⟨?_, fun p hp => ?_⟩, own_cap h2⟩
  · cases tv with
    | nil => exact .inl rfl
    | cons p r =>
      obtain ⟨g, c', hv, _, _⟩ := World.ownsRow.form h2 (by simp)
      injection hv with e1 e2 e3
      subst e1 e3
      exact own_Row (xs := []) (lcell_len (p :: r)) (by rw [List.append_nil]; exact h2)
  · have hO := h3 p hp
    obtain ⟨da, dc, hdv⟩ := hO.form
    rw [hdv] at hO
    exact ⟨da, dc, hdv, hO.at.1, hO.at.2.2, own_nz hO⟩
theorem pack_len {t : List Lf} {L : List Int} (h : packX t = (L, 0)) (hd : ∀ l ∈ t, bytesOk l.data) : L.length + 236 ≤ (t.map fun l => 256 + 6 * l.data.length).sum := by
  obtain ⟨x, r, rfl, h1, h2, h3, h4, rfl⟩ := packX_ok h
  obtain ⟨_, p2⟩ := pieces_ok r (restB_all r _ _ h4) (fun l hl => hd l (List.mem_cons_of_mem _ hl))
  have hl : (headX x).length = 15 := by
    unfold headX
    simp only [List.length_append, le_length, List.length_cons, List.length_nil]
  unfold bodyX
  simp only [List.length_append, le_length, List.length_cons, List.length_nil, hl, List.map_cons, List.sum_cons]
  omega
theorem append_rowN {w0 : World} (hw0 : Ok w0) (A : Option Addr) (c n : Nat) (xs ys : List Int) (a : Option Addr) (d m k : Nat) (w : World) (f : Fr w0 w) (hxn : xs.length = n) (hyn : ys.length = m) (hk : n + m = k) (ho : OwnB w w0.heap.size (.slice A n c) xs) (hA : BytesAt w a ys) (hn : a = none → d = 0) (hl : k ≤ 1073741824) :
    ∃ a' d' w', (Builtin.append_ #[22, 22] 22 #[.slice A n c, .slice a m d]).run Tryd.prog w = .ok (.slice a' k d') w' ∧ OwnB w' w0.heap.size (.slice a' k d') (xs ++ ys) ∧ Fr w0 w' := by
  subst hxn hyn hk
  obtain ⟨v', w', hr, O, q, _⟩ := append_row 22 w0.heap.size A c xs ys a d w ho hA hn (by omega) f.size
  obtain ⟨a', d', rfl⟩ := O.form
  rw [List.length_append] at hr O
  exact ⟨a', d', w', hr, O, Fr.row f hw0 q (fun k e => (World.ownsRow.lt ho k e).1)⟩
theorem append_oneN {w0 : World} (hw0 : Ok w0) (A : Option Addr) (c n : Nat) (xs : List Int) (y : Int) (k : Nat) (w : World) (f : Fr w0 w) (hxn : xs.length = n) (hk : n + 1 = k) (ho : OwnB w w0.heap.size (.slice A n c) xs) (hl : k ≤ 1073741824) :
    ∃ g w1 a' d' w', w.heap.size = g ∧ w.alloc (.cells #[.int .u8 y] 5) = w1 ∧ (Builtin.append_ #[22, 22] 22 #[.slice A n c, .slice (some ⟨g, 0, none⟩) 1 1]).run Tryd.prog w1 = .ok (.slice a' k d') w' ∧ OwnB w' w0.heap.size (.slice a' k d') (xs ++ [y]) ∧ Fr w0 w' := by
  subst hxn hk
  obtain ⟨w1, v', w', hw1, hr, O, q, _⟩ := append_lit 22 w0.heap.size A c xs [y] w ho (by simp; omega) f.size
  obtain ⟨a', d', rfl⟩ := O.form
  rw [List.length_append] at hr O
  exact ⟨_, w1, a', d', w', rfl, hw1, hr, O, Fr.row f hw0 q (fun k e => (World.ownsRow.lt ho k e).1)⟩

end Go.Proofs.YtlnaeppbhjmocaaDoor
set_option linter.unusedSimpArgs false
set_option linter.unusedVariables false
namespace Go.Proofs.YtlnaeppbhjmocaaDoor
open Go.RowKit Go.Proofs Go.Proofs.YtlnaeppbhjmocaaDoorW.PrintWords Go.Proofs.YtlnaeppbhjmocaaDoorW.PrintMore

theorem names_good {p : ByteArray} {ns : List ByteArray} (h : namesP p.data.toList = some ns) (w : World) (hw : Ok w) :
    Calls Tryd.prog 51 #[.string p] w fun e w' => ∃ A c, e = .returned (.tuple #[.slice A ns.length c, .bool true]) ∧ SRow w' A ns ∧ Fr w w' := by
  obtain ⟨h1, h2, h3, h4⟩ := namesP_good h
  have hp : p = pathOf ns := bs_ext (by rw [pathOf_data, h1])
  have hsz : (pathOf ns).size ≤ 1023 := by rw [← hp]; exact h4
  have hn := names_path ns (2 * 1048576 + 9) h2 h3 (by omega) (Nat.le_refl _)
  rw [if_neg (by omega), ← hp] at hn
  refine (names_run p ns true _ hn w hw).mono ?_
  rintro e w' ⟨A, c, h5, h6, h7, _⟩
  exact ⟨A, c, h5, h6, h7⟩
theorem put18N (x : Int) (h0 : 0 ≤ x) (h1 : x ≤ 18446744073709551615) (n : Nat) (hn : n ≤ 8) (w : World) (hw : Ok w) :
    Calls Tryd.prog 29 #[.int .u64 x, .int .i64 n] w fun e w' => ∃ a d, e = .returned (.slice a n d) ∧ OwnB w' w.heap.size (.slice a n d) (le x n) ∧ Fr w w' :=
  (put18_any x h0 h1 n hn w hw).mono fun e w' ⟨v, he, hO, q⟩ => by
    obtain ⟨a, d, rfl⟩ := hO.form
    rw [le_length] at he hO
    exact ⟨a, d, he, hO, q⟩
theorem cut_any (A : Option Addr) (c : Nat) (L : List Int) (hc : L.length ≤ c) (hL : L.length ≤ 16777216) (m : Nat) (hm : (cutB L).length = m) (w : World) (hw : Ok w) (hA : BytesAt w A L) :
    Calls Tryd.prog 61 #[.slice A L.length c] w fun e w' => ∃ a d, e = .returned (.slice a m d) ∧ OwnB w' w.heap.size (.slice a m d) (cutB L) ∧ Fr w w' :=
  (PPack.shaleref18_cut.calls (3 * L.length + 12) A c L _ w (hA.toC (by omega)) hc (ecut L (by omega) _ (Nat.le_refl _))).mono fun e w' ⟨v, he, hR, hb⟩ => by
    have hO := OwnB.ofR hR
    obtain ⟨a, d, rfl⟩ := hO.form
    rw [hm] at he hO
    exact ⟨a, d, he, hO, Fr.of hw hb⟩
theorem own_new (w : World) (B : Nat) (hB : B ≤ w.heap.size) (ys : List Int) (n : Nat) (hn : ys.length = n) (hl : n ≤ 1048576) : OwnB (w.alloc (.cells ((ys.map (Value.int .u8)).toArray) 5)) B (.slice (some ⟨w.heap.size, 0, none⟩) n n) ys := by
  subst hn
  refine ⟨by simp, .inr ⟨w.heap.size, ys.length, _, rfl, hB, World.alloc_heap_new w _, Nat.le_refl _, by unfold maxLen; omega, by simp, ?_⟩⟩
  rw [Nat.mul_one]
  exact List.take_of_length_le (by simp)
theorem append_strN {w0 : World} (hw0 : Ok w0) (A : Option Addr) (c n : Nat) (xs : List Int) (s : ByteArray) (k : Nat) (w : World) (f : Fr w0 w) (hxn : xs.length = n) (hk : n + s.size = k) (ho : OwnB w w0.heap.size (.slice A n c) xs) (hl : k ≤ 1073741824) :
    ∃ a' d' w', (Builtin.append_ #[22, 9] 22 #[.slice A n c, .string s]).run Tryd.prog w = .ok (.slice a' k d') w' ∧ OwnB w' w0.heap.size (.slice a' k d') (xs ++ bytesI s) ∧ Fr w0 w' := by
  subst hxn hk
  obtain ⟨v', w', hr, O, q, _⟩ := append_str 22 w0.heap.size A c xs s w ho (by omega) f.size
  obtain ⟨a', d', rfl⟩ := O.form
  rw [List.length_append, bytesI_length] at hr O
  exact ⟨a', d', w', hr, O, Fr.row f hw0 q (fun k e => (World.ownsRow.lt ho k e).1)⟩

set_option maxRecDepth 100000 in
set_option maxHeartbeats 3200000 in
theorem rpiece_any (l : Lf) (ns : List ByteArray) (da : Option Addr) (dd : Nat) (hok : okL l = true) (hn : namesP l.path.data.toList = some ns) (hne : ns ≠ []) (hst : 0 ≤ l.stamp ∧ l.stamp ≤ 18446744073709551615) (hdd : l.data.length ≤ dd) (hbd : bytesOk l.data) (w : World) (hw : Ok w) (hD : BytesAt w da l.data) :
    Calls Tryd.prog 44 #[.agg #[.string l.path, .int .i64 l.ty, .int .i64 l.mode, .int .u64 l.stamp, .slice da l.data.length dd, .string l.tgt]] w fun e w' => ∃ v, e = .returned v ∧ OwnB w' w.heap.size v (pieceB l ns) ∧ Fr w w' := by
  obtain ⟨pa, ty, mo, st, dat, tg⟩ := l
  dsimp only at hn hst hdd hbd hD ⊢
  obtain ⟨t1, t3, m0, m1, d1, dnil, gnil, gok⟩ := okL_ty hok
  dsimp only at t1 t3 m0 m1 d1 dnil gnil gok
  obtain ⟨-, hnm, h64, -⟩ := namesP_good hn
  obtain ⟨nm, hnm'⟩ : ∃ nm, ns.getLastD ⟨#[]⟩ = nm := ⟨_, rfl⟩
  obtain ⟨N, hN⟩ : ∃ N, ns.length = N := ⟨_, rfl⟩
  have hNp : 0 < N := by rw [← hN]; exact List.length_pos_iff.mpr hne
  have hlast : ns[N - 1]'(by omega) = nm := by
    subst hN
    rw [← hnm', List.getLastD_eq_getLast?, List.getLast?_eq_getElem?]
    simp [show ns.length - 1 < ns.length by omega]
  have hnb := hnm nm (by rw [← hlast]; exact List.getElem_mem _)
  obtain ⟨s1, s2, -⟩ := name_size hnb
  have HPB : Hid (pieceB ⟨pa, ty, mo, st, dat, tg⟩ ns = [((N - 1 : Nat) : Int), ty] ++ le mo 2 ++ le st 8 ++ [(nm.size : Int)] ++ bytesI nm ++ pieceT ⟨pa, ty, mo, st, dat, tg⟩) := Lib.hid (by
    unfold pieceB pieceH
    dsimp only
    rw [hnm', hN])
  have HNm := Lib.hid (fun W (q : Ok W) => names_good hn W q)
  rw [hN] at HNm
  have HLs : Hid (∀ W A, SRow W A ns → ∃ g, A = some ⟨g, 0, none⟩ ∧ W.cell? ⟨g, N - 1, none⟩ = some (.string nm)) := Lib.hid (fun W A h => by
    obtain ⟨g, h1, h2⟩ := h (N - 1) (by omega)
    rw [hlast] at h2
    exact ⟨g, h1, h2⟩)
  obtain ⟨dl, hdl⟩ : ∃ d, dat.length = d := ⟨_, rfl⟩
  rw [hdl] at hdd d1 ⊢
  obtain ⟨w1, g1, hg1, hw1, f, hz1, H1⟩ := boxedN hw #[.string pa, .int .i64 ty, .int .i64 mo, .int .u64 st, .slice da dl dd, .string tg] 45
  obtain ⟨l0, l1, l2, l3, l4, l5⟩ := blk6 H1
  have HD := Lib.hid (hD.fr f)
  have HL := Lib.hid (And.intro l1 (And.intro l2 (And.intro l3 (And.intro l4 l5))))
  have HDL := Lib.hid hdl
  have HBD := Lib.hid hbd
  have HG := Lib.hid gok
  have hN64 : N ≤ 64 := by omega
  clear hok hn hne hnm h64 hnm' hN hlast hnb dnil gnil gok hD H1 hdl hbd l1 l2 l3 l4 l5
  have e1 : IntKind.u8.wrap ((N : Int) - 1) = ((N - 1 : Nat) : Int) := by rw [IntKind.wrap_u8]; omega
  have e2 : IntKind.u8.wrap ty = ty := by rw [IntKind.wrap_u8]; omega
  have e3 : IntKind.u64.wrap mo = mo := u64_in ⟨by omega, by omega⟩
  have e4 : IntKind.u8.wrap (nm.size : Int) = (nm.size : Int) := by rw [IntKind.wrap_u8]; omega
  have e5 : (0 : Int) ≤ (N : Int) - 1 := by omega
  have e6 : (N : Int) - 1 < (N : Int) := by omega
  obtain ⟨N1, hN1⟩ : ∃ n, N - 1 = n := ⟨_, rfl⟩
  have e7 : (N : Int) - 1 = (N1 : Int) := by omega
  rw [hN1] at e1 HLs HPB
  rw [e7] at e1
  go_enter Tryd.func44, Tryd.ntmps44
  go_upto_region 3 with (go_at_call 51; refine (HNm.out _ f.ok).mono ?_; rintro e w2 ⟨an, cn, rfl, S, h⟩; go_loud (obtain ⟨gn, rfl, hcl⟩ := HLs.out _ _ S); clear S)
  have c1 := h.cell HL.out.1
  obtain ⟨g3, hg3⟩ : ∃ g, w2.heap.size = g := ⟨_, rfl⟩
  obtain ⟨w3, hw3⟩ : ∃ w3, w2.alloc (.cells #[.int .u8 (N1 : Int), .int .u8 ty] 5) = w3 := ⟨_, rfl⟩
  have O3 := own_new w2 w1.heap.size h.size [(N1 : Int), ty] 2 rfl (by decide)
  simp only [List.map_cons, List.map_nil] at O3
  rw [hw3, hg3] at O3
  have h3 : Fr w1 w3 := by rw [← hw3]; exact h.alloc _
  obtain ⟨Y3, hY3⟩ : ∃ Y, [(N1 : Int), ty] = Y := ⟨_, rfl⟩
  have hl3 : Y3.length = 2 := by rw [← hY3]; rfl
  rw [hY3] at O3
  have HY3 := Lib.hid hY3
  clear hY3
  go_upto_region 4 with fail
  have c2 := h3.cell HL.out.2.1
  clear c1 hcl hw3 hg3 h
  go_upto_region 5 with (first
    | (go_at_call 29; refine (put18N mo m0 (by omega) 2 (by decide) _ h3.ok).mono ?_; rintro e wb ⟨au, du, rfl, OU, qu⟩; (obtain ⟨a4, d4, w4, hap, O4, h4⟩ := append_rowN f.ok _ _ 2 Y3 (le mo 2) au du 2 4 wb (h3.trans qu) hl3 (le_length _ _) rfl (OwnB.fr O3 qu) OU.at.1 (own_nz OU) (by decide)); clear OU qu)
    | (at_builtin; refine wpList_append_run rfl _ _ 22 22 rfl (by simp [Act.eval]) (by simp [Act.eval]) hap ?_))
  obtain ⟨Y4, hY4⟩ : ∃ Y, Y3 ++ le mo 2 = Y := ⟨_, rfl⟩
  have hl4 : Y4.length = 4 := by rw [← hY4, List.length_append, hl3, le_length]
  rw [hY4] at O4
  have HY4 := Lib.hid hY4
  have c3 := h4.cell HL.out.2.2.1
  clear hY4 hap c2 O3 h3 hl3
  go_upto_region 6 with (first
    | (go_at_call 29; refine (put18N st hst.1 hst.2 8 (by decide) _ h4.ok).mono ?_; rintro e wb ⟨au, du, rfl, OU, qu⟩; (obtain ⟨a5, d5, w5, hap, O5, h5⟩ := append_rowN f.ok _ _ 4 Y4 (le st 8) au du 8 12 wb (h4.trans qu) hl4 (le_length _ _) rfl (OwnB.fr O4 qu) OU.at.1 (own_nz OU) (by decide)); clear OU qu)
    | (at_builtin; refine wpList_append_run rfl _ _ 22 22 rfl (by simp [Act.eval]) (by simp [Act.eval]) hap ?_))
  obtain ⟨Y5, hY5⟩ : ∃ Y, Y4 ++ le st 8 = Y := ⟨_, rfl⟩
  have hl5 : Y5.length = 12 := by rw [← hY5, List.length_append, hl4, le_length]
  rw [hY5] at O5
  have HY5 := Lib.hid hY5
  clear hY5 hap c3 O4 h4 hl4
  obtain ⟨gx, w6', a6, d6, w6, hgx, hw6', hap, O6, h6⟩ := append_oneN f.ok a5 d5 12 Y5 (nm.size : Int) 13 w5 h5 hl5 rfl O5 (by decide)
  obtain ⟨Y6, hY6⟩ : ∃ Y, Y5 ++ [(nm.size : Int)] = Y := ⟨_, rfl⟩
  have hl6 : Y6.length = 13 := by rw [← hY6, List.length_append, hl5]; rfl
  rw [hY6] at O6
  have HY6 := Lib.hid hY6
  obtain ⟨k7, hk7⟩ : ∃ k, 13 + nm.size = k := ⟨_, rfl⟩
  obtain ⟨a7, d7, w7, hap2, O7, h7⟩ := append_strN f.ok a6 d6 13 Y6 nm k7 w6 h6 hl6 hk7 O6 (by omega)
  obtain ⟨Y7, hY7⟩ : ∃ Y, Y6 ++ bytesI nm = Y := ⟨_, rfl⟩
  have hl7 : Y7.length = k7 := by rw [← hY7, List.length_append, hl6, bytesI_length]; exact hk7
  rw [hY7] at O7
  have HY7 : Hid (pieceB ⟨pa, ty, mo, st, dat, tg⟩ ns = Y7 ++ pieceT ⟨pa, ty, mo, st, dat, tg⟩) := Lib.hid (by rw [HPB.out, ← hY7, ← HY6.out, ← HY5.out, ← HY4.out, ← HY3.out])
  have hk7l : k7 ≤ 76 := by omega
  clear hY6 hY7 hk7 O5 O6 HY3 HY4 HY5 HY6 HPB
  go_upto_region 8 with (first
    | (at_builtin; refine wpList_append_run rfl _ _ 22 22 rfl (by simp [Act.eval]) (by simp [Act.eval]) hap ?_)
    | (at_builtin; refine wpList_append_run rfl _ _ 22 9 rfl (by simp [Act.eval]) (by simp [Act.eval]) hap2 ?_))
  have c1 := h7.cell HL.out.1
  clear hap hap2 hgx hw6' h5 h6 hl5 hl6
  by_cases ty1 : ty = 1
  · subst ty1
    have c4 := h7.cell HL.out.2.2.2.1
    have hE1 : ((1 : Int) == 1) = true := rfl
    obtain ⟨m, hm⟩ : ∃ m, (cutB dat).length = m := ⟨_, rfl⟩
    have hm6 : m ≤ 536870912 := by
      rw [← hm]
      unfold cutB stretX
      rw [List.length_append, le_length, ← cutS_eq dat dat.length dat.length dat.length 0 (by omega) (Nat.le_refl _) (Nat.le_refl _)]
      have := cutS_len dat dat.length dat.length 0 (by omega) (Nat.le_refl _)
      have := HDL.out
      omega
    have HCu := Lib.hid (cut_any da dd dat (by rw [HDL.out]; exact hdd) (by rw [HDL.out]; exact d1) m hm w7 h7.ok (HD.out.fr h7))
    rw [HDL.out] at HCu
    have HT : Hid (pieceT ⟨pa, 1, mo, st, dat, tg⟩ = cutB dat) := Lib.hid (by unfold pieceT; rfl)
    obtain ⟨k8, hk8⟩ : ∃ k, k7 + m = k := ⟨_, rfl⟩
    have HM := Lib.hid (And.intro hm hk8)
    have hk8l : k8 ≤ 1073741824 := by omega
    clear hm hk8
    go_wp2_with (first
      | (go_at_call 61; refine HCu.out.mono ?_; rintro e wb ⟨au, du, rfl, OU, qu⟩; (obtain ⟨a8, d8, w8, hap, O8, h8⟩ := append_rowN f.ok _ _ k7 Y7 (cutB dat) au du m k8 wb (h7.trans qu) hl7 HM.out.1 HM.out.2 (OwnB.fr O7 qu) OU.at.1 (own_nz OU) (by omega)); clear OU qu)
      | (at_builtin; refine wpList_append_run rfl _ _ 22 22 rfl (by simp [Act.eval]) (by simp [Act.eval]) hap ?_))
    refine ⟨rfl, _, results_tmp rfl _ _ _, _, rfl, ?_, f.trans h8⟩
    rw [HY7.out, HT.out]
    exact O8.low (by have := f.size; omega)
  · by_cases ty3 : ty = 3
    · subst ty3
      have c5 := h7.cell HL.out.2.2.2.2
      have htg : 1 ≤ tg.size ∧ tg.size ≤ 127 := by
        have := HG.out rfl
        unfold targetB at this
        simp only [Bool.and_eq_true, decide_eq_true_eq] at this
        exact this.1
      obtain ⟨htg1, htg2⟩ := htg
      have e8 : IntKind.u8.wrap (tg.size : Int) = (tg.size : Int) := by rw [IntKind.wrap_u8]; omega
      have hE1 : ((3 : Int) == 1) = false := rfl
      have hE3 : ((3 : Int) == 3) = true := rfl
      obtain ⟨k8, hk8⟩ : ∃ k, k7 + 1 = k := ⟨_, rfl⟩
      obtain ⟨gx, w8', a8, d8, w8, hgx, hw8', hap, O8, h8⟩ := append_oneN f.ok a7 d7 k7 Y7 (tg.size : Int) k8 w7 h7 hl7 hk8 O7 (by omega)
      obtain ⟨Y8, hY8⟩ : ∃ Y, Y7 ++ [(tg.size : Int)] = Y := ⟨_, rfl⟩
      have hl8 : Y8.length = k8 := by rw [← hY8, List.length_append, hl7]; exact hk8
      rw [hY8] at O8
      have c5' := h8.cell HL.out.2.2.2.2
      obtain ⟨k9, hk9⟩ : ∃ k, k8 + tg.size = k := ⟨_, rfl⟩
      obtain ⟨a9, d9, w9, hap2, O9, h9⟩ := append_strN f.ok a8 d8 k8 Y8 tg k9 w8 h8 hl8 hk9 O8 (by omega)
      have HT : Hid (Y7 ++ pieceT ⟨pa, 3, mo, st, dat, tg⟩ = Y8 ++ bytesI tg) := Lib.hid (by rw [← hY8]; unfold pieceT; dsimp only; rw [if_neg (by decide), if_pos rfl]; simp)
      clear hY8 hk8 hk9
      go_wp2_with (first
        | (at_builtin; refine wpList_append_run rfl _ _ 22 22 rfl (by simp [Act.eval]) (by simp [Act.eval]) hap ?_)
        | (at_builtin; refine wpList_append_run rfl _ _ 22 9 rfl (by simp [Act.eval]) (by simp [Act.eval]) hap2 ?_))
      refine ⟨rfl, _, results_tmp rfl _ _ _, _, rfl, ?_, f.trans h9⟩
      rw [HY7.out, HT.out]
      exact O9.low (by have := f.size; omega)
    · have hE1 : (ty == 1) = false := by simp [ty1]
      have hE3 : (ty == 3) = false := by simp [ty3]
      have HT : Hid (pieceT ⟨pa, ty, mo, st, dat, tg⟩ = []) := Lib.hid (by unfold pieceT; dsimp only; rw [if_neg ty1, if_neg ty3])
      go_wp2_with fail
      refine ⟨rfl, _, results_tmp rfl _ _ _, _, rfl, ?_, f.trans h7⟩
      rw [HY7.out, HT.out, List.append_nil]
      exact O7.low (by have := f.size; omega)
end Go.Proofs.YtlnaeppbhjmocaaDoor
set_option linter.unusedSimpArgs false
set_option linter.unusedVariables false
namespace Go.Proofs.YtlnaeppbhjmocaaDoor
open Go.RowKit Go.Proofs Go.Proofs.YtlnaeppbhjmocaaDoorW.PrintWords Go.Proofs.YtlnaeppbhjmocaaDoorW.PrintMore

theorem tree_any (A : Option Addr) (c : Nat) (tv : List (Lf × Value)) (w : World) (hw : Ok w) (hT : LAt w A tv) (hc : tv.length ≤ c) (hn : tv.length ≤ 16777216) (hs : ∀ p ∈ tv, p.1.path.size ≤ 1048575) (hd : ∀ p ∈ tv, p.1.data.length ≤ 1099511627776) :
    Calls Tryd.prog 42 #[.slice A tv.length c] w fun e w' => e = .returned (.int .i64 (packX (tv.map Prod.fst)).2) ∧ Fr w w' := by
  have hm : tv.map toP = (tv.map Prod.fst).map toPl := by rw [List.map_map]; rfl
  have hl : (tv.map toP).length = tv.length := List.length_map ..
  have hk := hT.toPack (by omega) hd
  have he := etree (tv.map toP) (by omega) (fun x hx => by obtain ⟨p, hp, rfl⟩ := List.mem_map.1 hx; exact hs p hp) (71 * tv.length + 2 * 1048576 + 40) (by omega)
  have hq := PPack.shaleref18_Tree.calls _ A c (tv.map toP) _ w hk (by omega) he
  rw [hl] at hq
  refine hq.mono ?_
  rintro e w' ⟨h1, h2⟩
  rw [hm, treeE_eq] at h1
  exact ⟨h1, Fr.of hw h2⟩
theorem head_any (l : Lf) (hm : 0 ≤ l.mode ∧ l.mode ≤ 4095) (hs : 0 ≤ l.stamp ∧ l.stamp ≤ 18446744073709551615) (w : World) (hw : Ok w) :
    Calls Tryd.prog 43 #[.int .i64 l.mode, .int .u64 l.stamp] w fun e w' => ∃ a d, e = .returned (.slice a 15 d) ∧ OwnB w' w.heap.size (.slice a 15 d) (headX l) ∧ Fr w w' :=
  (PPack.shaleref18_Head.calls 9 l.mode l.stamp _ w (ehead l hm hs 9 (Nat.le_refl _))).mono fun e w' ⟨v, he, hR, hb⟩ => by
    have hO := OwnB.ofR hR
    obtain ⟨a, d, rfl⟩ := hO.form
    have hl : (headX l).length = 15 := by
      unfold headX
      simp only [List.length_append, le_length, List.length_cons, List.length_nil]
    rw [hl] at he hO
    exact ⟨a, d, he, hO, Fr.of hw hb⟩
theorem rpieceN (l : Lf) (ns : List ByteArray) (da : Option Addr) (dd m : Nat) (hm : (pieceB l ns).length = m) (hok : okL l = true) (hn : namesP l.path.data.toList = some ns) (hne : ns ≠ []) (hst : 0 ≤ l.stamp ∧ l.stamp ≤ 18446744073709551615) (hdd : l.data.length ≤ dd) (hbd : bytesOk l.data) (w : World) (hw : Ok w) (hD : BytesAt w da l.data) :
    Calls Tryd.prog 44 #[.agg #[.string l.path, .int .i64 l.ty, .int .i64 l.mode, .int .u64 l.stamp, .slice da l.data.length dd, .string l.tgt]] w fun e w' => ∃ a d, e = .returned (.slice a m d) ∧ OwnB w' w.heap.size (.slice a m d) (pieceB l ns) ∧ Fr w w' :=
  (rpiece_any l ns da dd hok hn hne hst hdd hbd w hw hD).mono fun e w' ⟨v, he, hO, q⟩ => by
    obtain ⟨a, d, rfl⟩ := hO.form
    rw [hm] at he hO
    exact ⟨a, d, he, hO, q⟩
/-- the first pieces -/
def piecesT (r : List Lf) (i : Nat) : List Int := (r.take i).flatMap fun y => pieceB y (nmL y)
theorem piecesT_succ (r : List Lf) (i : Nat) (l : Lf) (h : r[i]? = some l) : piecesT r (i + 1) = piecesT r i ++ pieceB l (nmL l) := by
  unfold piecesT
  rw [List.take_add_one, h, List.flatMap_append]
  simp
theorem piecesT_all (r : List Lf) : piecesT r r.length = r.flatMap fun y => pieceB y (nmL y) := by unfold piecesT; rw [List.take_length]
theorem piecesT_le (r : List Lf) (i : Nat) : (piecesT r i).length ≤ (r.flatMap fun y => pieceB y (nmL y)).length := by
  unfold piecesT
  conv => rhs; rw [← List.take_append_drop i r]
  rw [List.flatMap_append, List.length_append]
  omega

set_option maxRecDepth 100000 in
set_option maxHeartbeats 3200000 in
theorem rPack_any (A : Option Addr) (c : Nat) (tv : List (Lf × Value)) (w : World) (hw : Ok w) (hT : LAt w A tv) (hc : tv.length ≤ c) (hn : tv.length ≤ 16777216) (hs : ∀ p ∈ tv, p.1.path.size ≤ 1048575) (hst : ∀ p ∈ tv, 0 ≤ p.1.stamp ∧ p.1.stamp ≤ 18446744073709551615)
    (hW : (tv.map fun p => 256 + 6 * p.1.data.length).sum ≤ 536870912) (hbd : ∀ p ∈ tv, bytesOk p.1.data) (hdl : ∀ p ∈ tv, p.1.data.length ≤ 1099511627776) :
    Calls Tryd.prog 19 #[.slice A tv.length c] w fun e w' => ∃ v, e = .returned (.tuple #[v, .int .i64 (packX (tv.map Prod.fst)).2]) ∧ OwnB w' w.heap.size v (packX (tv.map Prod.fst)).1 ∧ Fr w w' := by
  have HTr := Lib.hid (tree_any A c tv w hw hT hc hn hs hdl)
  obtain ⟨⟨L, er⟩, hP⟩ : ∃ P, packX (tv.map Prod.fst) = P := ⟨_, rfl⟩
  rw [hP] at HTr ⊢
  dsimp only at HTr ⊢
  by_cases he : er = 0
  · subst he
    have hd : ∀ l ∈ tv.map Prod.fst, bytesOk l.data := fun l hl => by obtain ⟨p, hp, rfl⟩ := List.mem_map.1 hl; exact hbd p hp
    have hLl2 : L.length ≤ 536870676 := by
      have hLl := pack_len hP hd
      rw [List.map_map] at hLl
      have e : ((fun l : Lf => 256 + 6 * l.data.length) ∘ Prod.fst) = fun p : Lf × Value => 256 + 6 * p.1.data.length := rfl
      rw [e] at hLl
      omega
    obtain ⟨x, r, hxr, -, -, hxo, hrest, hL⟩ := packX_ok hP
    have hall := restB_all r _ _ hrest
    obtain ⟨n, hn'⟩ : ∃ n, tv.length = n := ⟨_, rfl⟩
    have hrn : r.length + 1 = n := by rw [← hn', ← List.length_map (f := Prod.fst), hxr, List.length_cons]
    obtain ⟨gT, oT, hA, hgT, hcells⟩ := hT.1.resolve_left (by rw [List.map_eq_nil_iff]; intro e; rw [e] at hn'; simp at hn'; omega)
    have hcell : ∀ i q, tv[i]? = some q → ∀ j v, (lcell q)[j]? = some v → w.cell? ⟨gT, oT + i * 6 + j, none⟩ = some v := fun i q hi j v hv => hcells i (lcell q) (by rw [List.getElem?_map, hi]; rfl) j v (by
      have h1 := (List.getElem?_eq_some_iff.1 hv).1
      have h2 : (lcell q).length = 6 := rfl
      omega) hv
    have HLf : Hid (∀ i, 1 ≤ i → i < n → ∃ l lv, tv[i]? = some (l, lv) ∧ r[i - 1]? = some l ∧ l ∈ r ∧ (∃ a d, lv = .slice a l.data.length d ∧ BytesAt w a l.data ∧ l.data.length ≤ d) ∧ (0 ≤ l.stamp ∧ l.stamp ≤ 18446744073709551615) ∧ bytesOk l.data) := Lib.hid (fun i h1 h2 => by
      obtain ⟨⟨l, lv⟩, hq⟩ : ∃ q, tv[i]? = some q := ⟨_, List.getElem?_eq_getElem (by omega)⟩
      have hq2 : (tv.map Prod.fst)[i]? = some l := by rw [List.getElem?_map, hq]; rfl
      rw [hxr] at hq2
      obtain ⟨m, rfl⟩ : ∃ m, i = m + 1 := ⟨i - 1, by omega⟩
      rw [List.getElem?_cons_succ] at hq2
      have hm := List.mem_of_getElem? hq
      obtain ⟨da, dd, hlv, hb, hl, _⟩ := hT.2 _ hm
      exact ⟨l, lv, hq, hq2, List.mem_of_getElem? hq2, ⟨da, dd, hlv, hb, hl⟩, hst _ hm, hbd _ hm⟩)
    obtain ⟨⟨x', xv⟩, hx0⟩ : ∃ q, tv[0]? = some q := ⟨_, List.getElem?_eq_getElem (by omega)⟩
    have hxx : x' = x := by
      have : (tv.map Prod.fst)[0]? = some x' := by rw [List.getElem?_map, hx0]; rfl
      rw [hxr] at this
      injection this with e
      exact e.symm
    subst hxx
    have hxst := hst _ (List.mem_of_getElem? hx0)
    have hxm := okL_ty hxo
    have HHd := Lib.hid (fun W (q : Ok W) => head_any x' ⟨hxm.2.2.1, hxm.2.2.2.1⟩ hxst W q)
    have r2 : w.cell? ⟨gT, oT + 2, none⟩ = some (.int .i64 x'.mode) := by have := hcell 0 _ hx0 2 _ rfl; simpa using this
    have r3 : w.cell? ⟨gT, oT + 3, none⟩ = some (.int .u64 x'.stamp) := by have := hcell 0 _ hx0 3 _ rfl; simpa using this
    have HCell := Lib.hid hcell
    have HAll := Lib.hid hall
    have hbl : (bodyX x' r).length + 4 = L.length := by rw [hL, List.length_append, le_length]
    have hbl2 : 15 + (r.flatMap fun y => pieceB y (nmL y)).length + 5 = L.length := by
      rw [← hbl]
      unfold bodyX headX
      simp only [List.length_append, le_length, List.length_cons, List.length_nil]
    have HLe : Hid (∀ i, (headX x' ++ piecesT r i).length ≤ 536870676) := Lib.hid (fun i => by
      have := piecesT_le r i
      rw [List.length_append]
      have hl : (headX x').length = 15 := by
        unfold headX
        simp only [List.length_append, le_length, List.length_cons, List.length_nil]
      omega)
    have HBd : Hid (bytesOk (bodyX x' r)) := Lib.hid (fun z hz => by
      have hLb := (packX_bytes hP hd).1
      exact hLb z (by rw [hL]; exact List.mem_append_left _ hz))
    have HL := Lib.hid hL
    have HBl : Hid ((bodyX x' r).length ≤ 536870676) := Lib.hid (by omega)
    have d1 : (0 : Int) < (n : Int) := by omega
    have hE0 : ((0 : Int) != 0) = false := rfl
    have HRN := Lib.hid (And.intro hrn (show n ≤ 16777216 by omega))
    rw [hn'] at HTr hc ⊢
    subst hA
    clear hP hd hLl2 hxr hxo hrest hL hall hrn hT hn' hcells hcell hx0 hxst hxm hbl hbl2 hn hs hst hW hbd hdl
    go_enter Tryd.func19, Tryd.ntmps19
    go_upto_region 4 with (go_at_call 42; refine HTr.out.mono ?_; rintro e w1 ⟨rfl, f⟩; replace r2 := f.cell r2; replace r3 := f.cell r3)
    have r_r2 := cell_regrown r2
    have r_r3 := cell_regrown r3
    refine Reg.wp_region_tail_below 0 8 (by kernel_rfl) (by kernel_rfl) (fun _ _ d _ _ h => by cases d <;> exact h) ?_
    simp only [List.take_succ_cons, List.take_zero, List.drop_succ_cons, List.drop_zero, Reg.earlyA]
    repeat (go_big_quiet_step (fail))
    refine wpQuiet_nil ?_
    intro wq hwq
    have q := Fr.regrown f.ok hwq
    clear hwq r_r2 r_r3
    replace r2 := q.cell r2
    replace r3 := q.cell r3
    replace f := f.trans q
    clear q
    go_wp2_with (go_at_call 43; refine (HHd.out _ f.ok).mono ?_; rintro e w2 ⟨a2, d2, rfl, O2, q2⟩)
    have f2 := f.trans q2
    have O2' := O2.low f.size
    go_loopg [5, 6] (n - 1) (fun k v5 v6 wc => ∃ (i nY : Nat) (Y : List Int) (a : Option Addr) (d : Nat), i + k = n ∧ 1 ≤ i ∧ v5 = .slice a nY d ∧ v6 = .int .i64 i ∧ Hid (Y.length = nY ∧ Y = headX x' ++ piecesT r (i - 1)) ∧ Hid (OwnB wc w.heap.size (.slice a nY d) Y) ∧ Hid (Fr w wc))
    case atStart => exact ⟨1, 15, headX x', a2, d2, by have := HRN.out.1; omega, Nat.le_refl _, rfl, rfl, Lib.hid ⟨by unfold headX; simp only [List.length_append, le_length, List.length_cons, List.length_nil], by unfold piecesT; simp⟩, Lib.hid O2', Lib.hid f2⟩
    case round =>
      clear f2 f q2 O2 O2' r2 r3
      obtain ⟨i, nY, Y, a, d, hik, hi1, rfl, rfl, HY, HO, HF⟩ := hrel
      have hnYl : nY ≤ 536870676 := by have := HLe.out (i - 1); rw [← HY.out.2, HY.out.1] at this; exact this
      have hnb := HRN.out.2
      cases gk with
      | zero =>
        obtain rfl : i = n := by omega
        have d5 : decide ((i : Int) < (i : Int)) = false := decide_eq_false (by omega)
        obtain ⟨k2, hk2⟩ : ∃ k, nY + 1 = k := ⟨_, rfl⟩
        obtain ⟨g5, w5, a6, d6, w6, hg5, hw5, hap, O6, f6⟩ := append_oneN hw a d nY Y 255 k2 wr HF.out HY.out.1 hk2 HO.out (by omega)
        have hbody : Y ++ [255] = bodyX x' r := by
          rw [HY.out.2, show i - 1 = r.length by have := HRN.out.1; omega, piecesT_all]
          rfl
        rw [hbody] at O6
        obtain ⟨BB, hBB⟩ : ∃ BB, bodyX x' r = BB := ⟨_, rfl⟩
        rw [hBB] at O6
        have hbB : BB.length = k2 := by rw [← hBB, ← hbody, List.length_append, HY.out.1]; exact hk2
        have hSe := sealed_any a6 d6 BB (by rw [← hBB]; exact HBd.out) O6.at.2.2 (by omega) w6 f6.ok O6.at.1
        rw [hbB] at hSe
        have HSe := Lib.hid hSe
        have HBB := Lib.hid hBB
        have HF6 := Lib.hid f6
        clear hSe hBB hbB hbody O6 f6 hk2
        go_wp2_with (first
          | (at_builtin; refine wpList_append_run rfl _ _ 22 22 rfl (by simp [Act.eval]) (by simp [Act.eval]) hap ?_)
          | (go_at_call 11; refine HSe.out.mono ?_; rintro e w7 ⟨v7, rfl, O7, q7⟩))
        refine ⟨rfl, _, results_tmp2 rfl _ _ _, _, rfl, ?_, HF6.out.trans q7⟩
        rw [HL.out, HBB.out]
        exact O7.low (by have := HF6.out.size; omega)
      | succ k =>
        have d5 : decide ((i : Int) < (n : Int)) = true := decide_eq_true (by omega)
        have d6 : (0 : Int) ≤ (i : Int) := by omega
        have d7 : (i : Int) < (n : Int) := by omega
        obtain ⟨l, lv, hq, hr1, hlr, ⟨da, dd, rfl, hbl, hdd⟩, hst, hbd⟩ := HLf.out i hi1 (by omega)
        obtain ⟨ho, hnm, hne⟩ := HAll.out l hlr
        have b0 := HF.out.cell (HCell.out i _ hq 0 _ rfl)
        have b1 := HF.out.cell (HCell.out i _ hq 1 _ rfl)
        have b2 := HF.out.cell (HCell.out i _ hq 2 _ rfl)
        have b3 := HF.out.cell (HCell.out i _ hq 3 _ rfl)
        have b4 := HF.out.cell (HCell.out i _ hq 4 _ rfl)
        have b5 := HF.out.cell (HCell.out i _ hq 5 _ rfl)
        simp only [Nat.add_zero] at b0
        obtain ⟨m, hm⟩ : ∃ m, (pieceB l (nmL l)).length = m := ⟨_, rfl⟩
        have HPi := Lib.hid (rpieceN l (nmL l) da dd m hm ho hnm hne hst hdd hbd wr HF.out.ok (hbl.fr HF.out))
        obtain ⟨k2, hk2⟩ : ∃ k, nY + m = k := ⟨_, rfl⟩
        have hYn : Hid ((Y ++ pieceB l (nmL l)).length = k2 ∧ Y ++ pieceB l (nmL l) = headX x' ++ piecesT r (i + 1 - 1)) := Lib.hid (by
          refine ⟨by rw [List.length_append, HY.out.1, hm]; exact hk2, ?_⟩
          have h9 := piecesT_succ r (i - 1) l hr1
          rw [show i - 1 + 1 = i by omega] at h9
          rw [Nat.add_sub_cancel, h9, HY.out.2, List.append_assoc])
        have hk2l : k2 ≤ 536870676 := by have := HLe.out (i + 1 - 1); rw [← hYn.out.2, hYn.out.1] at this; exact this
        have HM := Lib.hid (And.intro hm hk2)
        clear hm hk2 hr1 hlr hst hbd ho hnm hne hq hbl
        go_wp2_with (first
          | (go_at_call 44; refine HPi.out.mono ?_; rintro e wb ⟨au, du, rfl, OU, qu⟩; (obtain ⟨a8, d8, w8, hap, O8, h8⟩ := append_rowN hw a d nY Y _ au du m k2 wb (HF.out.trans qu) HY.out.1 HM.out.1 HM.out.2 (OwnB.fr HO.out qu) OU.at.1 (own_nz OU) (by omega)); clear OU qu)
          | (at_builtin; refine wpList_append_run rfl _ _ 22 22 rfl (by simp [Act.eval]) (by simp [Act.eval]) hap ?_))
        go_roundg k
        case measure => omega
        case rel => exact ⟨i + 1, k2, _, a8, d8, by omega, by omega, rfl, by go_num, hYn, Lib.hid O8, Lib.hid h8⟩
  · have hE0 : (er != 0) = true := by simp [he]
    have hL0 : L = [] := by
      have := packX_err (t := tv.map Prod.fst) (by rw [hP]; exact he)
      rw [hP] at this
      exact this
    subst hL0
    clear hP
    go_enter Tryd.func19, Tryd.ntmps19
    go_wp2_with (go_at_call 42; refine HTr.out.mono ?_; rintro e w1 ⟨rfl, f⟩)
    exact ⟨rfl, _, results_tmp2 rfl _ _ _, _, rfl, OwnB.nil _ _, f⟩
end Go.Proofs.YtlnaeppbhjmocaaDoor
set_option linter.unusedSimpArgs false
set_option linter.unusedVariables false
namespace Go.Proofs.YtlnaeppbhjmocaaDoor
open Go.RowKit Go.Proofs Go.Proofs.YtlnaeppbhjmocaaDoorW.PrintWords Go.Proofs.YtlnaeppbhjmocaaDoorW.PrintMore

/-- a leaf's data with marked room behind them, in a list of the call's own -/
def RoomO (w : World) (B : Nat) (p : Lf × Value) : Prop := ∃ gd cd, p.2 = .slice (some ⟨gd, 0, none⟩) p.1.data.length cd ∧ OwnB w B (.slice (some ⟨gd, 0, none⟩) (full70 p.1.data).length cd) (full70 p.1.data)
theorem RoomO.fr {w w' : World} {B : Nat} {p : Lf × Value} (h : RoomO w B p) (q : Fr w w') : RoomO w' B p := by
  obtain ⟨gd, cd, h1, h2⟩ := h
  exact ⟨gd, cd, h1, OwnB.fr h2 q⟩
theorem RoomO.own {w w' : World} {B b s n : Nat} {p : Lf × Value} {e : TypeId} {v : Value} {xs : List Value} (h : RoomO w B p) (q : w.grownBy w' v.ownBlock) (O : w.ownsRow b e s v n xs) (ht : 5 ≠ e) : RoomO w' B p := by
  obtain ⟨gd, cd, h1, h2⟩ := h
  exact ⟨gd, cd, h1, World.ownsRow.kept h2 q (own_ne2 h2 O ht)⟩
theorem RoomO.blk {w w' : World} {B g : Nat} {p : Lf × Value} {cs : Array Value} {t : TypeId} (h : RoomO w B p) (q : w.grownBy w' (some g)) (H : w.heap[g]? = some (.cells cs t (0, 0))) (ht : 5 ≠ t) : RoomO w' B p := by
  obtain ⟨gd, cd, h1, h2⟩ := h
  exact ⟨gd, cd, h1, own_grown h2 q H ht⟩
/-- leaves put behind a row of them -/
theorem append_leaves {w0 : World} (hw0 : Ok w0) (v : Value) (n m k : Nat) (xs news : List Value) (w : World) (f : Fr w0 w) (hk : n + m = k) (hm : 0 < m) (hnl : news.length = m * 6) (h1 : ∀ u ∈ news, u.oneCell' = true) (ho : w.ownsRow w0.heap.size 45 6 v n xs) (hl : k ≤ 1073741824) :
    ∃ g w1 ga d' w', w.heap.size = g ∧ w.alloc (.cells news.toArray 45) = w1 ∧ (Builtin.append_ #[26, 26] 26 #[v, .slice (some ⟨g, 0, none⟩) m m]).run Tryd.prog w1 = .ok (.slice (some ⟨ga, 0, none⟩) k d') w' ∧
      w'.ownsRow w0.heap.size 45 6 (.slice (some ⟨ga, 0, none⟩) k d') k (xs ++ news) ∧ Fr w0 w' ∧ k ≤ d' ∧ (∀ B p, RoomO w B p → RoomO w' B p) ∧ (∀ g' cs t, w.heap[g']? = some (.cells cs t (0, 0)) → some g' ≠ v.ownBlock → w'.heap[g']? = some (.cells cs t (0, 0))) := by
  subst hk
  obtain ⟨i, hi, hz, hs, hby⟩ := info_leaf
  have f1 : Fr w (w.alloc (.cells news.toArray 45)) := (Fr.refl f.ok).alloc _
  have O1 := own_fr ho f1
  have H := World.alloc_heap_new w (.cells news.toArray 45)
  obtain ⟨v', w', hr, O, q, _⟩ := append_src Tryd.underlying26 hi hz hs hby rfl (by decide) 26 O1 (some ⟨w.heap.size, 0, none⟩) m m news (by have := Src.lit H m m; simpa using this) hnl h1 (by unfold maxLen; omega) (by omega) (f.trans f1).size
  obtain ⟨ga, d', hv, hcap, _⟩ := World.ownsRow.form O (by omega)
  subst hv
  refine ⟨_, _, ga, d', w', rfl, rfl, hr, O, (f.trans f1).row hw0 q (own_base' O1), own_cap O, fun B p hp => (hp.fr f1).own q O1 (by decide), fun g' cs t hg' hne => grown_blk' q (f1.heap hg') hne⟩

theorem results_row {P : Program} {fn : Func} {p : Tmp} {ty : TypeId} (h : fn.results = #[.cell p ty]) (tmps : Array Value) (w : World) (g : Nat) (t : TypeId) (cs : Array Value) (fr : Nat × Nat) (d : TypeDesc)
    (hp : tmps.getD p undef = .pointer (some ⟨g, 0, none⟩)) (hg : w.heap[g]? = some (.cells cs t fr))
    (hu : P.underlying ty = some d) (hd : (match d with | .struct _ | .array _ _ => true | _ => false) = true) (hi : (P.info? ty).map (·.size) = some cs.size) :
    (results fn tmps).run P w = .ok (.agg cs) w := by
  have hp' : tmps[p]?.getD undef = .pointer (some ⟨g, 0, none⟩) := by simpa using hp
  simp [results, h, hp', asAddr, run_loadVar_row w g t ty cs fr d hg hu hd hi, Result.andThen]
def mkC : List Value := [.string ⟨#[47, 109, 97, 114, 107]⟩, .int .i64 77, .int .i64 0, .int .u64 0, .slice none 0 0, .string ⟨#[]⟩]
set_option maxRecDepth 100000 in
theorem mark_any (w : World) (hw : Ok w) : Calls Tryd.prog 45 #[] w fun e w' => e = .returned (.agg #[.string ⟨#[47, 109, 97, 114, 107]⟩, .int .i64 77, .int .i64 0, .int .u64 0, .slice none 0 0, .string ⟨#[]⟩]) ∧ Fr w w' := by
  obtain ⟨w1, g1, hg1, hw1, f1, hz1, H1⟩ := boxedN hw #[.string ⟨#[47, 109, 97, 114, 107]⟩, .int .i64 77, .int .i64 0, .int .u64 0, .slice none 0 0, .string ⟨#[]⟩] 45
  obtain ⟨l0, l1, l2, l3, l4, l5⟩ := blk6 H1
  have z2 := unfroz H1 2
  have z3 := unfroz H1 3
  have z4 := unfroz H1 4
  have z5 := unfroz H1 5
  have i2 := idemC H1 l2
  have i3 := idemC H1 l3
  have i4 := idemC H1 l4
  have i5 := idemC H1 l5
  go_enter Tryd.func45, Tryd.ntmps45
  go_wp2_with fail
  exact ⟨rfl, _, results_row rfl _ _ g1 _ _ _ _ rfl H1 Tryd.underlying45 rfl (by kernel_rfl), rfl, f1⟩
/-- a tree that was lent: its leaves, the three marks behind them -/
structure Lent (w : World) (B : Nat) (a : Option Addr) (c : Nat) (lfs : List Lf) (tv : List (Lf × Value)) : Prop where
  leaves : tv.map Prod.fst = lfs
  own : w.ownsRow B 45 6 (.slice a (tv.length + 3) c) (tv.length + 3) (lflat tv ++ (mkC ++ mkC ++ mkC))
  cap : tv.length + 3 ≤ c
  room : ∀ p ∈ tv, RoomO w B p
set_option maxRecDepth 100000 in
set_option maxHeartbeats 3200000 in
theorem lent_any (A : Option Addr) (c : Nat) (tv : List (Lf × Value)) (w : World) (hw : Ok w) (hT : LAt w A tv) (hc : tv.length ≤ c) (hn : tv.length ≤ 16777216) (hdl : ∀ p ∈ tv, p.1.data.length ≤ 1073741824) :
    Calls Tryd.prog 20 #[.slice A tv.length c] w fun e w' => ∃ a d tv', e = .returned (.slice a tv.length d) ∧ tv'.length = tv.length ∧ Lent w' w.heap.size a d (tv.map Prod.fst) tv' ∧ Fr w w' := by
  obtain ⟨n, hn'⟩ : ∃ n, tv.length = n := ⟨_, rfl⟩
  have hcell : ∀ i q, tv[i]? = some q → ∃ gT oT, A = some ⟨gT, oT, none⟩ ∧ ∀ j v, (lcell q)[j]? = some v → w.cell? ⟨gT, oT + i * 6 + j, none⟩ = some v := fun i q hi => by
    obtain ⟨gT, oT, hA, hgT, hcells⟩ := hT.1.resolve_left (by rw [List.map_eq_nil_iff]; intro e; rw [e] at hi; simp at hi)
    exact ⟨gT, oT, hA, fun j v hv => hcells i (lcell q) (by rw [List.getElem?_map, hi]; rfl) j v (by
      have h1 := (List.getElem?_eq_some_iff.1 hv).1
      have h2 : (lcell q).length = 6 := rfl
      omega) hv⟩
  have HLf : Hid (∀ i, i < n → ∃ l da dd gT oT, tv[i]? = some (l, .slice da l.data.length dd) ∧ BytesAt w da l.data ∧ l.data.length ≤ dd ∧ (da = none → dd = 0) ∧ l.data.length ≤ 1073741824 ∧ A = some ⟨gT, oT, none⟩ ∧ ∀ j v, (lcell (l, .slice da l.data.length dd))[j]? = some v → w.cell? ⟨gT, oT + i * 6 + j, none⟩ = some v) := Lib.hid (fun i h2 => by
    obtain ⟨⟨l, lv⟩, hq⟩ : ∃ q, tv[i]? = some q := ⟨_, List.getElem?_eq_getElem (by omega)⟩
    have hm := List.mem_of_getElem? hq
    obtain ⟨da, dd, hlv, hb, hl, hz⟩ := hT.2 _ hm
    dsimp only at hlv
    subst hlv
    obtain ⟨gT, oT, hA, hc⟩ := hcell i _ hq
    exact ⟨l, da, dd, gT, oT, hq, hb, hl, hz, hdl _ hm, hA, hc⟩)
  rw [hn'] at hc hn ⊢
  have HTV := Lib.hid hn'
  clear hT hdl hcell hn'
  go_enter Tryd.func20, Tryd.ntmps20
  go_wp2_with fail
  go_loopg [3, 4] n (fun k v3 v4 wc => ∃ (i : Nat) (tv' : List (Lf × Value)), i + k = n ∧ v4 = .int .i64 i ∧ Hid (tv'.length = i ∧ tv'.map Prod.fst = (tv.take i).map Prod.fst) ∧ Hid (wc.ownsRow w.heap.size 45 6 v3 i (lflat tv')) ∧ Hid (∀ p ∈ tv', RoomO wc w.heap.size p) ∧ Hid (Fr w wc))
  case atStart => exact ⟨0, [], by omega, rfl, Lib.hid ⟨rfl, rfl⟩, Lib.hid ⟨rfl, .inl ⟨rfl, rfl⟩⟩, Lib.hid (fun p hp => by cases hp), Lib.hid (Fr.refl hw)⟩
  case round =>
    obtain ⟨i, tv', hik, rfl, HT', HO, HR, HF⟩ := hrel
    cases gk with
    | zero =>
      obtain rfl : i = n := by omega
      have d5 : decide ((i : Int) < (i : Int)) = false := decide_eq_false (by omega)
      obtain ⟨k3, hk3⟩ : ∃ k, i + 3 = k := ⟨_, rfl⟩
      have F := Fr.refl HF.out.ok
      have O := HO.out
      have HK3 := Lib.hid hk3
      have hik3 : (i : Int) ≤ (k3 : Int) := by omega
      have hk3l : k3 ≤ 1073741824 := by omega
      have hi0 : (0 : Int) ≤ (i : Int) := by omega
      clear hk3
      go_upto_region 9 with (first
        | (go_at_call 45; refine (mark_any _ F.ok).mono ?_; rintro e wm ⟨rfl, qm⟩; replace O := own_fr O qm; replace F := F.trans qm; clear qm; (try clear hg4 hw4 hap O5 f5 hcap hroom); (obtain ⟨g4, w4, ga, d', w5, hg4, hw4, hap, O5, f5, hcap, hroom, -⟩ := append_leaves hw _ i 3 k3 _ [.string ⟨#[47, 109, 97, 114, 107]⟩, .int .i64 77, .int .i64 0, .int .u64 0, .slice none 0 0, .string ⟨#[]⟩, .string ⟨#[47, 109, 97, 114, 107]⟩, .int .i64 77, .int .i64 0, .int .u64 0, .slice none 0 0, .string ⟨#[]⟩, .string ⟨#[47, 109, 97, 114, 107]⟩, .int .i64 77, .int .i64 0, .int .u64 0, .slice none 0 0, .string ⟨#[]⟩] wm (HF.out.trans F) HK3.out (by decide) rfl (by simp [Value.oneCell']) O hk3l))
        | (at_builtin; refine wpList_append_run rfl _ _ 26 26 rfl (by simp [Act.eval]) (by simp [Act.eval]) hap ?_))
      have hcap2 : (i : Int) ≤ (d' : Int) := by omega
      have HF5 := Lib.hid f5
      have HO5 := Lib.hid O5
      have HCap := Lib.hid hcap
      have HRm : Hid (∀ p ∈ tv', RoomO w5 w.heap.size p) := Lib.hid (fun p hp => hroom _ _ ((HR.out p hp).fr F))
      clear f5 O5 hcap hroom hap O F hg4 hw4
      go_wp2_with fail
      go_ret
      refine ⟨_, _, tv', rfl, HT'.out.1, ⟨?_, ?_, ?_, HRm.out⟩, HF5.out⟩
      · rw [HT'.out.2, List.take_of_length_le (by have := HTV.out; omega)]
      · rw [HT'.out.1, HK3.out]; exact HO5.out
      · rw [HT'.out.1, HK3.out]; exact HCap.out
    | succ k =>
      have d5 : decide ((i : Int) < (n : Int)) = true := decide_eq_true (by omega)
      have d6 : (0 : Int) ≤ (i : Int) := by omega
      have d7 : (i : Int) < (n : Int) := by omega
      obtain ⟨l, da, dd, gT, oT, hq, hb, hdd, hdz, hdl, rfl, hcell⟩ := HLf.out i (by omega)
      have b0 := HF.out.cell (hcell 0 _ rfl)
      have b1 := HF.out.cell (hcell 1 _ rfl)
      have b2 := HF.out.cell (hcell 2 _ rfl)
      have b3 := HF.out.cell (hcell 3 _ rfl)
      have b4 := HF.out.cell (hcell 4 _ rfl)
      have b5 := HF.out.cell (hcell 5 _ rfl)
      simp only [Nat.add_zero] at b0
      obtain ⟨dl, hdl'⟩ : ∃ m, l.data.length = m := ⟨_, rfl⟩
      have HRo := Lib.hid (fun W (q : Fr wr W) => roomy_any da dd l.data hdd hdl W q.ok (hb.fr (HF.out.trans q)) hdz)
      obtain ⟨m70, hm70⟩ : ∃ m, (full70 l.data).length = m := ⟨_, rfl⟩
      have hm70' : m70 = dl + 70 := by rw [← hm70, ← hdl']; simp [full70]
      rw [hdl', hm70] at HRo
      rw [hdl'] at b4 hdd hdl
      have HM70 := Lib.hid hm70
      clear hm70
      have HDL := Lib.hid hdl'
      have HQ := Lib.hid hq
      clear hcell hb hdz hdl' hq
      obtain ⟨pa, ty, mo, st, dat, tg⟩ := l
      dsimp only at b0 b1 b2 b3 b4 b5
      obtain ⟨w1, g1, hg1, hw1, f1, hz1, H1⟩ := boxedN HF.out.ok #[.string pa, .int .i64 ty, .int .i64 mo, .int .u64 st, .slice da dl dd, .string tg] 45
      obtain ⟨l0, l1, l2, l3, l4, l5⟩ := blk6 H1
      go_upto_region 6 with fail
      clear b0 b1 b2 b3 b4 b5 hw1
      have fd : Fr w1 w1.drew := (Fr.refl f1.ok).drew
      refine Reg.wp_region_late (fun w' => Fr w1 w') 8 [0, 1, 3, 4, 5] [2, 6, 7, 8] (by kernel_rfl) (by kernel_rfl) fd ?_
      obtain ⟨wd, hwd⟩ : ∃ wd, w1.drew = wd := ⟨_, rfl⟩
      rw [hwd] at fd ⊢
      clear hwd
      iterate 5
        refine Reg.wpLateT_step (v := ?_) rfl ?_ (fun w' hS => ?_) ?_
        rotate_left
        · simp [Region.wanted]
        · have s4 := hS.cell l4
          go_simp
          try (first | rfl | exact ⟨rfl, rfl⟩)
      refine Reg.wpMainT_enter (fn := 14) (args := #[.slice da dl dd]) rfl (by simp [Region.wanted]) ?_ (HRo.out _ (f1.trans fd)) ?_
      · go_simp
        try (first | rfl | exact ⟨rfl, rfl⟩)
      rintro e w2 ⟨a2, d2, rfl, O2, q2⟩
      have f2 := fd.trans q2
      refine ⟨_, rfl, .inr f2, ?_⟩
      obtain ⟨gd, cd, hvd, _, _⟩ := O2.blk (by have := HM70.out; omega)
      injection hvd with e1 _ e3
      subst e1 e3
      have hc2 := O2.at.2.2
      have c9 : (dl : Int) ≤ (d2 : Int) := by have := HM70.out; omega
      have c8 : (0 : Int) ≤ (dl : Int) := by omega
      refine Reg.wpMainT_run (v := (.slice (some ⟨gd, 0, none⟩) dl d2)) (w' := w2) rfl (by simp [Region.wanted]) ?_ (.inr f2) ?_
      · go_simp
        try (first | rfl | exact ⟨rfl, rfl⟩)
      refine Reg.wpMainT_run (v := (.pointer (some ⟨g1, 4, none⟩))) (w' := w2) rfl (by simp [Region.wanted]) ?_ (.inr f2) ?_
      · go_simp
        try (first | rfl | exact ⟨rfl, rfl⟩)
      have H2 := f2.heap H1
      have z4 := unfroz H2 4
      have s4 := (blk6 H2).2.2.2.2.1
      have hBg1 : w.heap.size ≤ g1 := by have := HF.out.size; omega
      obtain ⟨w3, hw3, H3, f3, gr3⟩ := set_own ((HF.out.trans f1).trans f2) hw hBg1 H2 4 (.slice (some ⟨gd, 0, none⟩) dl d2)
      refine Reg.wpMainT_skip (w' := w3) rfl (by simp [Region.wanted]) ?_ (.inl rfl) ?_
      · go_simp
        try (first | rfl | exact ⟨rfl, rfl⟩)
      refine Reg.wpMainT_nil ?_
      simp only [List.getElem_toArray, List.getElem_cons_succ, List.getElem_cons_zero, Act.put, List.setIfInBounds_toArray, List.set_cons_zero, List.set_cons_succ]
      simp only [List.setIfInBounds_toArray, List.set_cons_zero, List.set_cons_succ] at H3
      have O3 : OwnB w3 w.heap.size (.slice (some ⟨gd, 0, none⟩) m70 d2) (full70 dat) := own_grown (OwnB.low O2 (by have := (HF.out.trans (f1.trans fd)).size; omega)) gr3 H2 (by decide)
      have OR : w3.ownsRow w.heap.size 45 6 _ i (lflat tv') := own_keep (own_fr (own_fr HO.out f1) f2) gr3 (fun k e => by have := (World.ownsRow.lt HO.out k e).2; omega)
      have HRR : Hid (∀ p ∈ tv', RoomO w3 w.heap.size p) := Lib.hid (fun p hp => (((HR.out p hp).fr f1).fr f2).blk gr3 H2 (by decide))
      obtain ⟨l0', l1', l2', l3', l4', l5'⟩ := blk6 H3
      obtain ⟨i1, hi1⟩ : ∃ k, i + 1 = k := ⟨_, rfl⟩
      obtain ⟨g4, w4, ga, d', w5, hg4, hw4, hap, O5, f5, hcap, hroom, -⟩ := append_leaves hw _ i 1 i1 _ [.string pa, .int .i64 ty, .int .i64 mo, .int .u64 st, .slice (some ⟨gd, 0, none⟩) dl d2, .string tg] w3 f3 hi1 (by decide) rfl (by simp [Value.oneCell']) OR (by omega)
      have HI1 := Lib.hid hi1
      have HO3 := Lib.hid O3
      have HO5 := Lib.hid O5
      have HF5 := Lib.hid f5
      have HRm := Lib.hid hroom
      clear hi1 O3 O5 f5 hroom hcap OR O2 q2 f2 fd H2 z4 s4 gr3 f3 hw3 l0 l1 l2 l3 l4 l5 H1 H3
      go_wp2_with (first
        | (at_builtin; refine wpList_append_run rfl _ _ 26 26 rfl (by simp [Act.eval]) (by simp [Act.eval]) hap ?_))
      go_roundg k
      case measure => omega
      case rel =>
        refine ⟨i1, tv' ++ [(⟨pa, ty, mo, st, dat, tg⟩, .slice (some ⟨gd, 0, none⟩) dl d2)], by have := HI1.out; omega, by rw [← HI1.out]; go_num, Lib.hid ⟨?_, ?_⟩, Lib.hid ?_, Lib.hid ?_, HF5⟩
        · rw [List.length_append, HT'.out.1]; exact HI1.out
        · rw [← HI1.out, List.take_add_one, HQ.out, List.map_append, List.map_append, HT'.out.2]; rfl
        · rw [lflat_snoc]; exact HO5.out
        · intro p hp
          rcases List.mem_append.1 hp with e | e
          · exact HRm.out _ _ (HRR.out p e)
          · rw [List.mem_singleton.1 e]
            refine HRm.out _ _ ⟨gd, d2, ?_, ?_⟩
            · dsimp only; rw [HDL.out]
            · dsimp only; rw [HM70.out]; exact HO3.out
end Go.Proofs.YtlnaeppbhjmocaaDoor
set_option linter.unusedSimpArgs false
set_option linter.unusedVariables false
namespace Go.Proofs.YtlnaeppbhjmocaaDoor
open Go.RowKit Go.Proofs Go.Proofs.YtlnaeppbhjmocaaDoorW.PrintWords Go.Proofs.YtlnaeppbhjmocaaDoorW.PrintMore

/-- two trees that were handed in, the same -/
theorem alike_LL {w : World} (hw : Ok w) {A A' : Option Addr} {c c' : Nat} {tv tv' : List (Lf × Value)} (h : LAt w A tv) (h' : LAt w A' tv') (hc : tv.length ≤ c) (hc' : tv'.length ≤ c') (he : tv.map Prod.fst = tv'.map Prod.fst) (hl : tv.length ≤ 1099511627776) (hd : ∀ p ∈ tv, p.1.data.length ≤ 1099511627776) :
    Calls Tryd.prog 17 #[.slice A tv.length c, .slice A' tv'.length c'] w fun e w' => e = .returned (.bool true) ∧ Fr w w' := by
  have l2 : tv.length = tv'.length := by rw [← List.length_map (f := Prod.fst), he, List.length_map]
  have m1 : tv.map toS = (tv.map Prod.fst).map toS1 := by rw [List.map_map]; rfl
  have m2 : tv'.map toS = (tv.map Prod.fst).map toS1 := by rw [he, List.map_map]; rfl
  have hd' : ∀ p ∈ tv', p.1.data.length ≤ 1099511627776 := fun p hp => by
    have : p.1 ∈ tv.map Prod.fst := by rw [he]; exact List.mem_map_of_mem hp
    obtain ⟨q, hq, e⟩ := List.mem_map.1 this
    rw [← e]
    exact hd q hq
  have C1 := h.toAlike hl hd
  have C2 := h'.toAlike (by omega) hd'
  rw [m1] at C1
  rw [m2] at C2
  have hn : ((tv.map Prod.fst).map toS1).length = tv.length := by rw [List.length_map, List.length_map]
  have := (Palike.shalelaw18_alike.calls _ A c ((tv.map Prod.fst).map toS1) A' c' ((tv.map Prod.fst).map toS1) true w C1 (by omega) C2 (by omega) (alike_f _ (by omega))).mono fun e w' ⟨he, hb⟩ => (⟨he, Fr.of hw hb⟩ : e = Ending.returned (.bool true) ∧ Fr w w')
  rw [hn] at this
  rw [← l2]
  exact this
theorem RoomO.at {w : World} {B : Nat} {p : Lf × Value} (h : RoomO w B p) : ∃ a d, p.2 = .slice a p.1.data.length d ∧ BytesAt w a p.1.data ∧ p.1.data.length ≤ d ∧ (a = none → d = 0) := by
  obtain ⟨gd, cd, h1, O⟩ := h
  have hc := O.at.2.2
  have hl : (full70 p.1.data).length = p.1.data.length + 70 := by simp [full70]
  refine ⟨_, cd, h1, ?_, by omega, fun e => by cases e⟩
  have := O.at.1.take p.1.data.length
  have e : (full70 p.1.data).take p.1.data.length = p.1.data := by unfold full70; rw [List.take_left]
  rwa [e] at this
theorem Lent.fr {w w' : World} {B : Nat} {a : Option Addr} {c : Nat} {lfs : List Lf} {tv : List (Lf × Value)} (h : Lent w B a c lfs tv) (q : Fr w w') : Lent w' B a c lfs tv :=
  ⟨h.leaves, own_fr h.own q, h.cap, fun p hp => (h.room p hp).fr q⟩
theorem Lent.blk {w : World} {B : Nat} {a : Option Addr} {c : Nat} {lfs : List Lf} {tv : List (Lf × Value)} (h : Lent w B a c lfs tv) : ∃ g, a = some ⟨g, 0, none⟩ := by
  obtain ⟨g, c', hv, _⟩ := World.ownsRow.form h.own (by omega)
  injection hv with e1
  exact ⟨g, e1⟩
theorem Lent.toLAt {w : World} {B : Nat} {a : Option Addr} {c : Nat} {lfs : List Lf} {tv : List (Lf × Value)} (h : Lent w B a c lfs tv) : LAt w a tv := by
  obtain ⟨g, rfl⟩ := h.blk
  exact ⟨own_Row (xs := mkC ++ mkC ++ mkC) (lcell_len tv) h.own, fun p hp => (h.room p hp).at⟩
theorem Lent.marks {w : World} {B g : Nat} {c : Nat} {lfs : List Lf} {tv : List (Lf × Value)} (h : Lent w B (some ⟨g, 0, none⟩) c lfs tv) (i : Nat) (h1 : tv.length ≤ i) (h2 : i < tv.length + 3) (t : Nat) (u : Value) (ht : mkC[t]? = some u) : w.cell? ⟨g, i * 6 + t, none⟩ = some u := by
  have ht6 : t < 6 := (List.getElem?_eq_some_iff.1 ht).1
  have := own_at (lflat_length tv) h.own ((i - tv.length) * 6 + t) u (by
    rcases (by omega : i - tv.length = 0 ∨ i - tv.length = 1 ∨ i - tv.length = 2) with e | e | e
    · rw [e, Nat.zero_mul, Nat.zero_add, List.append_assoc, List.getElem?_append_left (by exact ht6)]; exact ht
    · rw [e, List.append_assoc, List.getElem?_append_right (by show 6 ≤ _; omega), List.getElem?_append_left (by show 1 * 6 + t - 6 < 6; omega), show 1 * 6 + t - mkC.length = t by show 1 * 6 + t - 6 = t; omega]; exact ht
    · rw [e, List.getElem?_append_right (by show 12 ≤ _; omega), show 2 * 6 + t - (mkC ++ mkC).length = t by show 2 * 6 + t - 12 = t; omega]; exact ht)
  rw [show tv.length * 6 + ((i - tv.length) * 6 + t) = i * 6 + t by omega] at this
  exact this
theorem leaf_mark (w : World) (hw : Ok w) : Calls Tryd.prog 41 #[.agg #[.string ⟨#[47, 109, 97, 114, 107]⟩, .int .i64 77, .int .i64 0, .int .u64 0, .slice none 0 0, .string ⟨#[]⟩], .agg #[.string ⟨#[47, 109, 97, 114, 107]⟩, .int .i64 77, .int .i64 0, .int .u64 0, .slice none 0 0, .string ⟨#[]⟩]] w fun e w' => e = .returned (.bool true) ∧ Fr w w' := by
  have h0 : BytesAt w none [] := .inl rfl
  have := Palike.shalelaw18_leaf.calls ⟨#[47, 109, 97, 114, 107]⟩ 77 0 0 none 0 [] ⟨#[]⟩ ⟨#[47, 109, 97, 114, 107]⟩ 77 0 0 none 0 [] ⟨#[]⟩ true w (h0.toC (by decide)) (Nat.le_refl _) (h0.toC (by decide)) (Nat.le_refl _) (by unfold Palike.shalelaw18_leaf.f Palike.shalelaw18_same.f; simp)
  exact this.mono fun e w' ⟨he, hb⟩ => ⟨he, Fr.of hw hb⟩

set_option maxRecDepth 100000 in
set_option maxHeartbeats 3200000 in
theorem back_any (a : Option Addr) (d : Nat) (A : Option Addr) (c : Nat) (tv tv' : List (Lf × Value)) (B : Nat) (w : World) (hw : Ok w) (hL : Lent w B a d (tv.map Prod.fst) tv') (hT : LAt w A tv) (hc : tv.length ≤ c) (hn : tv.length ≤ 16777216) (hdl : ∀ p ∈ tv, p.1.data.length ≤ 1073741824) :
    Calls Tryd.prog 23 #[.slice a tv.length d, .slice A tv.length c] w fun e w' => e = .returned (.bool true) ∧ Fr w w' := by
  obtain ⟨n, hn'⟩ : ∃ n, tv.length = n := ⟨_, rfl⟩
  have hl' : tv'.length = n := by rw [← hn', ← List.length_map (f := Prod.fst), hL.leaves, List.length_map]
  have HAl := Lib.hid (fun W (q : Fr w W) => by
    have := alike_LL q.ok (hL.toLAt.fr q) (hT.fr q) (c := d) (c' := c) (by have := hL.cap; omega) hc hL.leaves (by omega) (fun p hp => by
      have : p.1 ∈ tv.map Prod.fst := by rw [← hL.leaves]; exact List.mem_map_of_mem hp
      obtain ⟨q, hq, e⟩ := List.mem_map.1 this
      have := hdl q hq
      rw [e] at this
      omega)
    rw [hl', hn'] at this
    exact this)
  obtain ⟨g, rfl⟩ := hL.blk
  have hcap := hL.cap
  rw [hl'] at hcap
  have HMk : Hid (∀ i, n ≤ i → i < n + 3 → ∀ t u, mkC[t]? = some u → w.cell? ⟨g, i * 6 + t, none⟩ = some u) := Lib.hid (fun i h1 h2 t u ht => hL.marks i (by omega) (by omega) t u ht)
  have HLf : Hid (∀ i, i < n → ∃ (l : Lf) (da : Option Addr) (dd gd cd gT oT : Nat), BytesAt w da l.data ∧ l.data.length ≤ dd ∧ l.data.length ≤ 1073741824 ∧ BytesAt w (some ⟨gd, 0, none⟩) (full70 l.data) ∧ l.data.length + 70 ≤ cd ∧ A = some ⟨gT, oT, none⟩ ∧ w.cell? ⟨gT, oT + i * 6 + 4, none⟩ = some (.slice da l.data.length dd) ∧ w.cell? ⟨g, i * 6 + 4, none⟩ = some (.slice (some ⟨gd, 0, none⟩) l.data.length cd)) := Lib.hid (fun i h2 => by
    obtain ⟨⟨l, lv⟩, hq⟩ : ∃ q, tv[i]? = some q := ⟨_, List.getElem?_eq_getElem (by omega)⟩
    obtain ⟨⟨l', lv'⟩, hq'⟩ : ∃ q, tv'[i]? = some q := ⟨_, List.getElem?_eq_getElem (by omega)⟩
    have hll : l' = l := by
      have h1 : (tv'.map Prod.fst)[i]? = some l' := by rw [List.getElem?_map, hq']; rfl
      have h3 : (tv.map Prod.fst)[i]? = some l := by rw [List.getElem?_map, hq]; rfl
      rw [hL.leaves, h3] at h1
      injection h1 with h1
      exact h1.symm
    subst hll
    have hm := List.mem_of_getElem? hq
    obtain ⟨da, dd, hlv, hb, hl, hz⟩ := hT.2 _ hm
    dsimp only at hlv
    subst hlv
    obtain ⟨gd, cd, h5, O⟩ := hL.room _ (List.mem_of_getElem? hq')
    dsimp only at h5 O
    subst h5
    obtain ⟨gT, oT, hA, hgT, hcells⟩ := hT.1.resolve_left (by rw [List.map_eq_nil_iff]; intro e; rw [e] at hq; simp at hq)
    obtain ⟨gg, oo, hgg, _, hcells'⟩ := hL.toLAt.1.resolve_left (by rw [List.map_eq_nil_iff]; intro e; rw [e] at hq'; simp at hq')
    injection hgg with hgg
    injection hgg with e1 e2
    subst e1 e2
    have hcd := O.at.2.2
    have hl70 : (full70 l'.data).length = l'.data.length + 70 := by simp [full70]
    have k1 := hcells i (lcell (l', .slice da l'.data.length dd)) (by rw [List.getElem?_map, hq]; rfl) 4 _ (by decide) rfl
    have k2 := hcells' i (lcell (l', .slice (some ⟨gd, 0, none⟩) l'.data.length cd)) (by rw [List.getElem?_map, hq']; rfl) 4 _ (by decide) rfl
    rw [Nat.zero_add] at k2
    exact ⟨l', da, dd, gd, cd, gT, oT, hb, hl, hdl _ hm, O.at.1, by omega, hA, k1, k2⟩)
  rw [hn'] at hc hn ⊢
  clear hL hT hdl hn' hl'
  go_enter Tryd.func23, Tryd.ntmps23
  go_wp2_with (go_at_call 17; refine (HAl.out _ (Fr.refl hw)).mono ?_; rintro e w1 ⟨rfl, f1⟩)
  go_loopg [5] n (fun k v5 wc => ∃ (i : Nat), i + k = n ∧ v5 = .int .i64 i ∧ Hid (Fr w wc))
  case atStart => exact ⟨0, by omega, rfl, Lib.hid f1⟩
  case round =>
    clear f1
    obtain ⟨i, hik, rfl, HF⟩ := hrel
    cases gk with
    | zero =>
      obtain rfl : i = n := by omega
      have d5 : decide ((i : Int) < (i : Int)) = false := decide_eq_false (by omega)
      obtain ⟨k3, hk3⟩ : ∃ k, i + 3 = k := ⟨_, rfl⟩
      have e3 : (i : Int) + 3 = (k3 : Int) := by omega
      have d6 : (k3 : Int) ≤ (d : Int) := by omega
      have d7 : (0 : Int) ≤ (k3 : Int) := by omega
      have HK3 := Lib.hid hk3
      have hk3l : k3 ≤ 16777219 := by omega
      clear hk3
      go_wp2_with fail
      go_loopg [7] 3 (fun k v7 wc => ∃ (j : Nat), j + k = k3 ∧ i ≤ j ∧ v7 = .int .i64 j ∧ Hid (Fr w wc))
      case atStart => exact ⟨i, HK3.out, Nat.le_refl _, rfl, HF⟩
      case round =>
        obtain ⟨j, hjk, hij, rfl, HFj⟩ := hrel
        cases gk with
        | zero =>
          obtain rfl : j = k3 := by omega
          have c5 : decide ((j : Int) < (j : Int)) = false := decide_eq_false (by omega)
          go_wp2_with fail
          go_ret
          exact ⟨rfl, HFj.out⟩
        | succ k =>
          have c5 : decide ((j : Int) < (k3 : Int)) = true := decide_eq_true (by omega)
          have c6 : (0 : Int) ≤ (j : Int) := by omega
          have c7 : (j : Int) < (k3 : Int) := by omega
          have hj3 : j < i + 3 := by have := HK3.out; omega
          have m0 := HFj.out.cell (HMk.out j hij hj3 0 _ rfl)
          have m1 := HFj.out.cell (HMk.out j hij hj3 1 _ rfl)
          have m2 := HFj.out.cell (HMk.out j hij hj3 2 _ rfl)
          have m3 := HFj.out.cell (HMk.out j hij hj3 3 _ rfl)
          have m4 := HFj.out.cell (HMk.out j hij hj3 4 _ rfl)
          have m5 := HFj.out.cell (HMk.out j hij hj3 5 _ rfl)
          simp only [Nat.add_zero] at m0
          have f := Fr.refl HFj.out.ok
          go_upto_region 12 with fail
          have r_m0 := cell_regrown m0
          have r_m1 := cell_regrown m1
          have r_m2 := cell_regrown m2
          have r_m3 := cell_regrown m3
          have r_m4 := cell_regrown m4
          have r_m5 := cell_regrown m5
          refine wp_region_quiet_below (by kernel_rfl) (by kernel_rfl) ?_
          repeat (go_big_quiet_step (first | (go_at_call 45; exact qfr ((mark_any _ (okR f.ok _ _)))) | (go_at_call 41; exact qfr ((leaf_mark _ (okR f.ok _ _))))))
          refine wpQuiet_nil ?_
          intro wq hwq
          have q := Fr.regrown f.ok hwq
          clear hwq r_m0 r_m1 r_m2 r_m3 r_m4 r_m5
          replace m0 := q.cell m0
          replace m1 := q.cell m1
          replace m2 := q.cell m2
          replace m3 := q.cell m3
          replace m4 := q.cell m4
          replace m5 := q.cell m5
          replace f := f.trans q
          clear q
          go_wp2_with fail
          go_roundg k
          case measure => omega
          case rel => exact ⟨j + 1, by omega, by omega, by go_num, Lib.hid (HFj.out.trans f)⟩
    | succ k =>
      have d5 : decide ((i : Int) < (n : Int)) = true := decide_eq_true (by omega)
      have d6 : (0 : Int) ≤ (i : Int) := by omega
      have d7 : (i : Int) < (n : Int) := by omega
      obtain ⟨l, da, dd, gd, cd, gT, oT, hb, hdd, hdl, hbd, hcd, rfl, k1, k2⟩ := HLf.out i (by omega)
      have b1 := HF.out.cell k1
      have b2 := HF.out.cell k2
      have HKe := Lib.hid (fun W (q : Fr wr W) => kept_true gd cd da dd l.data hcd hdd hdl W q.ok (hbd.fr (HF.out.trans q)) (hb.fr (HF.out.trans q)))
      obtain ⟨dl, hdl'⟩ : ∃ m, l.data.length = m := ⟨_, rfl⟩
      rw [hdl'] at HKe b1 b2 hcd hdl
      have d8 : (dl : Int) + 70 ≤ (cd : Int) := by omega
      have d9 : (0 : Int) ≤ (dl : Int) + 70 := by omega
      have f := Fr.refl HF.out.ok
      clear k1 k2 hb hbd hdd hdl'
      go_upto_region 6 with fail
      have r_b1 := cell_regrown b1
      have r_b2 := cell_regrown b2
      refine wp_region_quiet_below (by kernel_rfl) (by kernel_rfl) ?_
      repeat (go_big_quiet_step (first | (go_at_call 18; exact qfr ((HKe.out _ (frR2 f.ok _ _))))))
      refine wpQuiet_nil ?_
      intro wq hwq
      have q := Fr.regrown f.ok hwq
      clear hwq r_b1 r_b2
      replace b1 := q.cell b1
      replace b2 := q.cell b2
      replace f := f.trans q
      clear q
      go_wp2_with fail
      go_roundg k
      case measure => omega
      case rel => exact ⟨i + 1, by omega, by go_num, Lib.hid (HF.out.trans f)⟩

set_option maxRecDepth 100000 in
set_option maxHeartbeats 3200000 in
theorem law_Packs (A : Option Addr) (c : Nat) (tv : List (Lf × Value)) (w : World) (hw : Ok w) (hg : 4 ≤ w.heap.size) (hT : TIn w A c tv) :
    Calls Tryd.prog 4 #[.slice A tv.length c] w fun e w' => e = .returned (.bool true) ∧ Fr w w' := by
  have hB0 : 0 < w.heap.size := by omega
  have hdl : ∀ p ∈ tv, p.1.data.length ≤ 536870912 := fun p hp => by
    have h1 := hT.sum
    have h2 : ∀ (l : List (Lf × Value)), p ∈ l → 256 + 6 * p.1.data.length ≤ (l.map fun p => 256 + 6 * p.1.data.length).sum := by
      intro l
      induction l with
      | nil => intro h; cases h
      | cons x r ih =>
        intro h
        rw [List.map_cons, List.sum_cons]
        rcases List.mem_cons.1 h with e | e
        · rw [e]; omega
        · have := ih e; omega
    have := h2 tv hp
    omega
  have hlen := hT.len
  have HRP := Lib.hid (rPack_any A c tv w hw hT.at_ hT.cap (by omega) hT.path hT.stamp hT.sum hT.bytes (fun p hp => by have := hdl p hp; omega))
  have HLe := Lib.hid (fun W (q : Fr w W) => lent_any A c tv W q.ok (hT.at_.fr q) hT.cap (by omega) (fun p hp => by have := hdl p hp; omega))
  have HPk : Hid (∀ W, Fr w W → ∀ B a d tv', Lent W B a d (tv.map Prod.fst) tv' → tv'.length = tv.length → Calls Tryd.prog 21 #[.slice a tv.length d] W fun e w' => ∃ v, e = .returned (.tuple #[v, .int .i64 (packX (tv.map Prod.fst)).2]) ∧ OwnB w' W.heap.size v (packX (tv.map Prod.fst)).1 ∧ Fr W w') := Lib.hid (fun W q B a d tv' hL hl => by
    have hm : ∀ p ∈ tv', ∃ p' ∈ tv, p'.1 = p.1 := fun p hp => by
      have h1 : p.1 ∈ tv'.map Prod.fst := List.mem_map_of_mem hp
      rw [hL.leaves] at h1
      obtain ⟨q, hq, e⟩ := List.mem_map.1 h1
      exact ⟨q, hq, e⟩
    have hs : (tv'.map fun p => 256 + 6 * p.1.data.length) = (tv.map fun p => 256 + 6 * p.1.data.length) := by
      have e1 : ∀ l : List (Lf × Value), (l.map fun p => 256 + 6 * p.1.data.length) = (l.map Prod.fst).map (fun l => 256 + 6 * l.data.length) := fun l => by rw [List.map_map]; rfl
      rw [e1, e1, hL.leaves]
    have := pack_any a d tv' W q.ok hL.toLAt (by have := hL.cap; omega) (by omega) (fun p hp => by obtain ⟨p', h1, h2⟩ := hm p hp; rw [← h2]; exact hT.path _ h1) (fun p hp => by obtain ⟨p', h1, h2⟩ := hm p hp; rw [← h2]; exact hT.stamp _ h1) (by rw [hs]; exact hT.sum) (fun p hp => by obtain ⟨p', h1, h2⟩ := hm p hp; rw [← h2]; exact hT.bytes _ h1) (by have := q.size; omega)
    rw [hL.leaves, hl] at this
    exact this)
  have HBk := Lib.hid (fun W (q : Fr w W) B a d tv' (hL : Lent W B a d (tv.map Prod.fst) tv') => back_any a d A c tv tv' B W q.ok hL (hT.at_.fr q) hT.cap (by omega) (fun p hp => by have := hdl p hp; omega))
  have HNo := Lib.hid (fun x W (q : Fr w W) => no_any x W q.ok)
  obtain ⟨⟨L, er⟩, hP⟩ : ∃ P, packX (tv.map Prod.fst) = P := ⟨_, rfl⟩
  have hLl : L.length ≤ 536870932 := by
    by_cases he : er = 0
    · subst he
      have hd : ∀ l ∈ tv.map Prod.fst, bytesOk l.data := fun l hl => by obtain ⟨p, hp, rfl⟩ := List.mem_map.1 hl; exact hT.bytes p hp
      have hLl := (packX_bytes hP hd).2.1
      have h := hT.sum
      rw [List.map_map] at hLl
      have e : ((fun l : Lf => 256 + 6 * l.data.length) ∘ Prod.fst) = fun p : Lf × Value => 256 + 6 * p.1.data.length := rfl
      rw [e] at hLl
      omega
    · have := packX_err (t := tv.map Prod.fst) (by rw [hP]; exact he)
      rw [hP] at this
      dsimp only at this
      rw [this]; simp
  rw [hP] at HRP HPk
  dsimp only at HRP HPk
  have hE : (er == er) = true := beq_self_eq_true _
  have HSa := Lib.hid (fun W (q : Fr w W) (B1 B2 : Nat) a1 d1 a2 d2 (O1 : OwnB W B1 (.slice a1 L.length d1) L) (O2 : OwnB W B2 (.slice a2 L.length d2) L) => same_true q.ok O1.at.1 O2.at.1 O1.at.2.2 O2.at.2.2 (by omega))
  obtain ⟨TT, hTT⟩ : ∃ T, tv.map Prod.fst = T := ⟨_, rfl⟩
  rw [hTT] at HLe HPk HBk
  obtain ⟨n, hn⟩ : ∃ n, tv.length = n := ⟨_, rfl⟩
  rw [hn] at HRP HLe HPk HBk ⊢
  clear hdl hP hTT hn hT hlen hLl
  go_enter Tryd.func4, Tryd.ntmps4
  go_wp2_with (first
    | (go_at_call 19; refine HRP.out.mono ?_; rintro e w1 ⟨v1, rfl, O1, q⟩; go_loud (obtain ⟨a1, d1, rfl⟩ := O1.form))
    | (go_at_call 20; refine (HLe.out _ q).mono ?_; rintro e w2 ⟨a2, d2, tv', rfl, hl2, hL2, q2⟩; replace O1 := OwnB.fr O1 q2; replace q := q.trans q2; (have HL2 := Lib.hid (And.intro hl2 hL2)); clear q2 hl2 hL2)
    | (go_at_call 21; refine (HPk.out _ q _ _ _ _ HL2.out.2 HL2.out.1).mono ?_; rintro e w3 ⟨v3, rfl, O3, q3⟩; go_loud (obtain ⟨a3, d3, rfl⟩ := O3.form); replace O1 := OwnB.fr O1 q3; replace HL2 := Lib.hid (And.intro HL2.out.1 (HL2.out.2.fr q3)); replace q := q.trans q3; clear q3)
    | (go_at_call 16; refine (HNo.out er _ q).mono ?_; rintro e w5 ⟨rfl, q5⟩; replace O1 := OwnB.fr O1 q5; replace O3 := OwnB.fr O3 q5; replace HL2 := Lib.hid (And.intro HL2.out.1 (HL2.out.2.fr q5)); replace q := q.trans q5; clear q5)
    | (go_at_call 22; refine (HSa.out _ q _ _ _ _ _ _ O3 O1).mono ?_; rintro e w6 ⟨rfl, q6⟩; replace HL2 := Lib.hid (And.intro HL2.out.1 (HL2.out.2.fr q6)); replace q := q.trans q6; clear q6)
    | (go_at_call 23; refine (HBk.out _ q _ _ _ _ HL2.out.2).mono ?_; rintro e w7 ⟨rfl, q7⟩; replace q := q.trans q7; clear q7))
  exact ⟨rfl, _, results_tmp rfl _ _ _, rfl, q⟩
end Go.Proofs.YtlnaeppbhjmocaaDoor
namespace Go.Proofs.YtlnaeppbhjmocaaDoor
open Go.ChangeShapes Go.WideShapes Go.RowKit

section
variable {H : Type} {enc : TypeId × Value → H} {P : Program}

theorem post_of_below {f : Func} {s : ChangeSpec} {apart fresh handsOn again : Bool} {W W' : World} {args : Array Value} {v : Value} {ds gs : List (DataW H)} {before pa pv : List MemPlace}
    (hW : DataW.Whole enc P f.params.toList s.vars apart W args.toList ds gs before)
    (hres : ∀ (b : Nat) (sp : Nat → Bool) (hd : Bool), DataW.TrodAll enc P W' b sp hd f.resultTypes.toList (v.resultList f.resultTypes.size) (s.fn H (ds ++ gs)).results [])
    (hargs : ∀ sp : Nat → Bool, (∀ p ∈ before, sp p.block = true) → DataW.TrodAll enc P W' 0 sp true f.params.toList args.toList (s.fn H (ds ++ gs)).args pa)
    (hvars : ∀ sp : Nat → Bool, (∀ p ∈ before, sp p.block = true) → DataW.TrodVars enc P W' sp s.vars (s.fn H (ds ++ gs)).vars pv)
    (hps : before = pa ++ pv) (hB : Below W.heap.size W W')
    (hok : ∀ (j : Nat) (t : TypeId) (r : Value), f.resultTypes[j]? = some t → (v.resultList f.resultTypes.size)[j]? = some r → Value.okWide P W' .any 0 t r) :
    s.post enc P f apart fresh handsOn again W args v W' := by
  have hold : ∀ p ∈ before, (fun b => decide (b < W.heap.size)) p.block = true := fun p hp => by simpa using hW.lt p hp
  have hlt : ∀ p ∈ before, p.block < W.heap.size := fun p hp => by simpa using hW.lt p hp
  refine ⟨ds, gs, before, [], pa, pv, hW, hres _ _ _, hargs _ hold, hvars _ hold, hB.frame _, fun _ => ?_⟩
  obtain ⟨_, _, _, _, _, hz, hn⟩ := hW
  refine ⟨hok, _, _, ([] ++ pa) ++ pv, ⟨[] ++ pa, pv, trodAll_append (hargs _ (fun _ _ => rfl)) (hres _ _ _), hvars _ (fun _ _ => rfl), rfl, ?_, ?_⟩, ?_⟩
  · intro b off hp
    have hm : MemPlace.cell b off ∈ before := by rw [hps]; simpa using hp
    rw [hB.frozen (p := ⟨b, off, none⟩) (hlt _ hm)]
    exact hz b off hm
  · intro ha
    have := hn ha
    rw [hps] at this
    simpa using this
  · intro p hp _
    rw [hps]
    simpa using hp

/-- the arguments read as they did -/
theorem trodAll_below (hl : laidOutB P = true) {W W' : World} (hB : Below W.heap.size W W') {sp : Nat → Bool} : ∀ {ts : List TypeId} {vs : List Value} {ds : List (DataW H)} {ps : List MemPlace},
    (∀ t ∈ ts, P.readableRec t = true ∧ t < P.types.size) → DataW.TrodAll enc P W 0 (fun _ => true) true ts vs ds ps → (∀ p ∈ ps, p.block < W.heap.size) → (∀ p ∈ ps, sp p.block = true) →
    DataW.TrodAll enc P W' 0 sp true ts vs ds ps
  | [], _, _, _, _, h, _, _ => by
    obtain ⟨rfl, rfl, rfl⟩ := trodAll_nil h
    exact trodAll_mk0
  | t :: ts, _, _, _, hr, h, hlt, hs => by
    obtain ⟨v, vs1, d, ds1, a, b, rfl, rfl, rfl, h1, h2⟩ := trodAll_cons h
    obtain ⟨hr1, hr2⟩ := hr t List.mem_cons_self
    exact trodAll_cons_mk (WideElems.Trod_stays hl hr1 hr2 h1 (fun p hp => hB.same (hlt p (List.mem_append_left _ hp))) (fun p hp => hs p (List.mem_append_left _ hp)))
      (trodAll_below hl hB (fun t ht => hr t (List.mem_cons_of_mem _ ht)) h2 (fun p hp => hlt p (List.mem_append_right _ hp)) (fun p hp => hs p (List.mem_append_right _ hp)))
end
end Go.Proofs.YtlnaeppbhjmocaaDoor
set_option linter.unusedSimpArgs false
set_option linter.unusedVariables false
namespace Go.Proofs.YtlnaeppbhjmocaaDoor.parcelPacks
open Go.ChangeShapes Go.WideShapes Go.ChangeAt Go.RowKit

theorem laidOf {W : World} (h : laidMetH Tryd.prog Rows.parcelPacksUptoRow.laid W) : laidMet Tryd.prog Rows.parcelPacksUptoRow.laid W := by
  rwa [MakeChecks.laidMetH_plain _ _ _ (by kernel_rfl)] at h
theorem okOf {W : World} (h : laidMetH Tryd.prog Rows.parcelPacksUptoRow.laid W) : Ok W where
  fours := okFours (Lib.laidMet.reads (laidOf h) (List.mem_cons_of_mem _ List.mem_cons_self))

set_option maxRecDepth 100000 in
theorem contract (H : Type) (enc : TypeId × Value → H) (W : World) (base : Nat) (args : Array Value) (ds gs : List (DataW H)) (before : List MemPlace)
    (hval : ∀ (j : Nat) t v, Tryd.f4.params[j]? = some t → args[j]? = some v → Value.okWide Tryd.prog W .any base t v)
    (hW : DataW.Whole enc Tryd.prog Tryd.f4.params.toList Rows.parcelPacksSpec.vars false W args.toList ds gs before) (hS : Rows.uptoSmall H (ds ++ gs) = true) (hL : laidMetH Tryd.prog Rows.parcelPacksUptoRow.laid W) (hSh : W.ShapedOpen Tryd.prog) :
    Calls Tryd.prog 4 args W fun e W' => ∃ v, e = .returned v ∧ Rows.parcelPacksSpec.post enc Tryd.prog Tryd.f4 false true false false W args v W' := by
  have hW' := hW
  obtain ⟨p, q, hA0, hV, rfl, hfz, hnd⟩ := hW
  have hA : DataW.TrodAll enc Tryd.prog W 0 (fun _ => true) true Tryd.f4.params.toList args.toList ds p := hA0
  rw [Tryd.params4] at hA hval
  obtain ⟨v0, vs0, d0, ds0, p0, q0, hargs, rfl, rfl, h0, r0⟩ := trodAll_cons hA
  obtain ⟨rfl, rfl, rfl⟩ := trodAll_nil r0
  obtain rfl : args = #[v0] := by cases args; simp_all
  obtain ⟨rfl, rfl⟩ := trodVars_none hV
  clear hA0
  simp only [List.append_nil] at hW'
  have hsz : Rows.uptoBulk d0 ≤ 1048576 := by
    have : Rows.uptoBulkAll ([d0] ++ []) ≤ 1048576 := by simpa [Rows.uptoSmall] using hS
    simp only [List.append_nil, Rows.uptoBulkAll] at this
    omega
  obtain ⟨A0, n0, c0, rfl⟩ := okWide_slice Tryd.underlying26 (hval 0 26 v0 rfl rfl)
  obtain ⟨fuel0, h0⟩ := h0
  obtain ⟨tv0, A', c', e, hT0, _⟩ := open_tree h0 hsz
  simp only [Value.cells] at e
  injection e with e _
  injection e with e1 e2 e3
  subst e1 e2 e3
  have walk : Calls Tryd.prog 4 #[.slice A0 tv0.length c0] W fun e w' => e = .returned (.bool true) ∧ Fr W w' :=
    law_Packs A0 c0 tv0 W (okOf hL) (sizeOf hSh) hT0
  refine walk.mono fun e W' ⟨he, hg⟩ => ?_
  subst he
  have hlt : ∀ x ∈ p0 ++ ([] : List MemPlace), x.block < W.heap.size := fun x hx => by simpa using hW'.lt x (by simpa using hx)
  exact ⟨_, rfl, post_of_below (pa := p0 ++ []) (pv := []) hW' (fun _ _ _ => trodAll_cons_mk (shut_bool Tryd.underlying4 _) trodAll_mk0)
    (fun sp hsp => trodAll_below laidOut hg.below (by rw [Tryd.params4]; simp only [List.mem_cons, List.not_mem_nil, or_false, forall_eq_or_imp, forall_eq]; exact ⟨by kernel_rfl, of_decide_eq_true (by kernel_rfl)⟩) (by rw [Tryd.params4]; exact hA) hlt (fun x hx => hsp x (by simpa using hx)))
    (fun _ _ => rfl) (by simp) hg.below (ok_one (by kernel_rfl) rfl (okWide_bool_mk Tryd.underlying4 _))⟩

/-- A WORLD FOR THE WITNESS: the settled one, the listed variables as they are laid. -/
def cells1 : DataW Unit → List Value
  | .lit (.int k z) => [.int k z]
  | .lit (.string s) => [.string ⟨s.toArray⟩]
  | .agg l => l.map fun d => match d with
    | .lit (.int k z) => Value.int k z
    | _ => Value.bool false
  | _ => []
def cellsOfData : DataW Unit → Array Value
  | .agg l => (l.flatMap cells1).toArray
  | _ => #[]
def layCells (cs : Array Value) : Obj → Obj
  | .cells _ t frozen => .cells cs t frozen
  | o => o
def layAt (d : DataW Unit) : Obj → Obj := layCells (cellsOfData d)
noncomputable def laidWorld (os : Os) : World :=
  let w0 := World.holding Tryd.prog os ⟨#[], #[], []⟩
  { w0 with heap := ((w0.heap.modify 3 (layAt Rows.laid_unicode_utf8_acceptRanges)).modify 0 (layAt Rows.laid_shale_words_fours)).modify 2 (layAt Rows.laid_unicode_utf8_first) }
def wArgs : Array Value := #[.slice none 0 0]
theorem laid_met (os : Os) : laidMet Tryd.prog Rows.parcelPacksUptoRow.laid ((laidWorld os).forCall (fun _ _ => 0) ⟨#[], wArgs, []⟩).memory :=
  laidMet_of_run' 8 (by kernel_rfl) (by kernel_rfl)
theorem reads (os : Os) {H : Type} (enc : TypeId × Value → H) : ∃ places, DataW.whole enc Tryd.prog ((laidWorld os).forCall (fun _ _ => 0) ⟨#[], wArgs, []⟩).memory Tryd.f4.params.toList Rows.parcelPacksSpec.vars false wArgs.toList 8 = some ([.nil], [], places) :=
  ⟨[], by kernel_rfl⟩

set_option maxRecDepth 100000 in
theorem lifted (os : Os) (started : os.Started) (H : Type) (enc : TypeId × Value → H) (F : Stop.Interp) :
    ReturnsInHanded {} Tryd.checked os 4 .any ((Rows.OpenSpec.upto Rows.parcelPacksSpec).preRow enc Tryd.prog Tryd.f4 Rows.parcelPacksUptoRow.domain false Rows.parcelPacksUptoRow.laid) (((Rows.OpenSpec.upto Rows.parcelPacksSpec).at F).post enc Tryd.prog Tryd.f4 false true false false) := by
  obtain ⟨places, hx⟩ := reads os enc
  refine returnsInHanded_of_row (C := Tryd.checked) (s := Rows.OpenSpec.upto Rows.parcelPacksSpec) own started (by kernel_rfl) Tryd.func4
    (witness_row_at (enc := enc) (C := Tryd.checked) false (laidWorld os) wArgs rfl (by kernel_rfl) (by kernel_rfl) (by kernel_rfl)
      (OpenSpec.preRow_of_cond 8 hx (by kernel_rfl) (fun k hk => by cases hk; kernel_rfl) (by kernel_rfl) (laid_met os))) ?_
  intro W base args ds gs before hval hW _ hcond _ hL hSh _
  exact contract H enc W base args ds gs before hval hW (hcond _ rfl) hL hSh

theorem said : Rows.ParcelPacksUptoSaid :=
  OpenClaim.holds_of_cond 4 Tryd.f4 rfl rfl rfl rfl rfl rfl rfl ⟨rfl, rfl, rfl, rfl, rfl⟩ rfl rfl rfl rfl rfl (by kernel_rfl) Tryd.func4 (by kernel_rfl)
    (of_decide_eq_true (by kernel_rfl)) (by unfold Func.isWrapper; first | (rw [if_pos (by decide +kernel)]; kernel_rfl) | (rw [if_neg (by decide +kernel)]; exact ⟨rfl, rfl⟩))
    (fun os started H enc _ F => by rw [OpenClaim.pre_eq_preRow]; exact lifted os started H enc F)

theorem plain (f : FuncId) (fn : Func) (hf : Tryd.pinned.checked.prog.funcNamed "shale/shalelaw18.ParcelPacks" = some f) (hfn : Tryd.pinned.checked.prog.funcs[f]? = some fn) :
    true = Tryd.pinned.checked.prog.looks [] ∧ ∀ (j : Nat) t, fn.params[j]? = some t → Tryd.pinned.checked.prog.wantsStandIn t = false := by
  obtain rfl : f = 4 := Option.some.inj ((show Tryd.prog.funcNamed "shale/shalelaw18.ParcelPacks" = some 4 by kernel_rfl).symm.trans hf) |>.symm
  obtain rfl : fn = Tryd.f4 := (Option.some.inj (Tryd.func4.symm.trans hfn)).symm
  refine ⟨by kernel_rfl, fun j t ht => ?_⟩
  rw [Tryd.params4] at ht
  have hm : t = 26 := by simpa using Array.mem_of_getElem? ht
  subst hm
  · exact (show Tryd.prog.wantsStandIn 26 = false by kernel_rfl)

theorem card : Rows.ParcelPacksUptoCardSaid :=
  Claim7.holds_tied_plain_at .later [] _ _ _ _ said (fun _ h => by cases h) (by kernel_rfl) (fun _ h => by cases h) parcelPacksUpto_row_tie rfl ⟨rfl, rfl⟩ (by kernel_rfl) rfl plain (by kernel_rfl)
end Go.Proofs.YtlnaeppbhjmocaaDoor.parcelPacks
