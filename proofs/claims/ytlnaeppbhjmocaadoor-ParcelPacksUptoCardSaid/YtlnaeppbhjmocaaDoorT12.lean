/- The document's Tree, Head and cut (printed) are the plain functions. -/
import Derived.Test.YtlnaeppbhjmocaaDoorT11
set_option linter.unusedSectionVars false
set_option linter.unnecessarySimpa false
set_option linter.unusedSimpArgs false
set_option linter.unusedVariables false
set_option linter.unusedSimpArgs false
set_option linter.unusedVariables false
namespace Go.Proofs.YtlnaeppbhjmocaaDoor
open Go.RowKit Go.Proofs Go.Shelf

theorem packX_bad {x : Lf} {r : List Lf} (h1 : x.path.data.toList = [47]) (h2 : x.ty = 2) (h : okL x = false ∨ restB [] true r = false) : packX (x :: r) = ([], 191) := by
  unfold packX
  dsimp only
  rw [if_pos ⟨h1, h2⟩, if_neg]
  rintro ⟨h3, h4⟩
  rcases h with h | h
  · rw [h3] at h; cases h
  · rw [h4] at h; cases h
def bodyP (x : Lf) (r : List Lf) : List Int := headX x ++ r.flatMap (fun y => pieceB y (nmL y)) ++ [255]
theorem packX_good {x : Lf} {r : List Lf} (h1 : x.path.data.toList = [47]) (h2 : x.ty = 2) (h3 : okL x = true) (h4 : restB [] true r = true) : packX (x :: r) = (bodyP x r ++ le (crcI (bodyP x r)) 4, 0) := by
  unfold packX bodyP
  dsimp only
  rw [if_pos ⟨h1, h2⟩, if_pos ⟨h3, h4⟩]
theorem packX_head {x : Lf} {r : List Lf} (h : ¬ (x.path.data.toList = [47] ∧ x.ty = 2)) : packX (x :: r) = ([], 190) := by
  unfold packX
  dsimp only
  rw [if_neg h]
/-- the head as it is written ahead of any test -/
def headM (x : Lf) : List Int := [80, 82, 67, 76, 1] ++ le (IntKind.u64.wrap x.mode) 2 ++ le x.stamp 8
/-- how far the pieces are told -/
def PInv (x : Lf) (r : List Lf) (i : Nat) (ys : List Int) (ahead : List ByteArray) (dir : Bool) : Prop :=
  (i = 0 ∧ ahead = [] ∧ ys = headM x) ∨ (1 ≤ i ∧ okL x = true ∧ restB ahead dir ((x :: r).drop i) = restB [] true r ∧ ys ++ ((x :: r).drop i).flatMap (fun y => pieceB y (nmL y)) = headX x ++ r.flatMap (fun y => pieceB y (nmL y)) ∧ dir = decide (((x :: r).getD (i - 1) x).ty = 2))

theorem names_R {s : List UInt8} {ns : List ByteArray} {nb : Bool} (h : namesR s = (ns, nb)) : (namesP s).isSome = nb ∧ (namesP s).getD [] = ns := by
  unfold namesR at h
  cases hq : namesP s with
  | none => rw [hq] at h; injection h with h1 h2; subst h1 h2; exact ⟨rfl, rfl⟩
  | some l => rw [hq] at h; injection h with h1 h2; subst h1 h2; exact ⟨rfl, rfl⟩
theorem pinv_drop {x : Lf} {r : List Lf} {i : Nat} {l : Lf} (hl : (x :: r)[i]? = some l) : (x :: r).drop i = l :: (x :: r).drop (i + 1) := by
  obtain ⟨h1, h2⟩ := List.getElem?_eq_some_iff.1 hl
  rw [List.drop_eq_getElem_cons h1, h2]
theorem pinv_bad {x : Lf} {r : List Lf} {i : Nat} {ys : List Int} {ahead : List ByteArray} {dir : Bool} {l : Lf} (h : PInv x r i ys ahead dir) (hl : (x :: r)[i]? = some l) (h1 : x.path.data.toList = [47]) (h2 : x.ty = 2)
    (hb : (namesP l.path.data.toList).isSome = false ∨ okL l = false ∨ (1 ≤ i ∧ stepX ltB ahead dir (nmL l) = false)) : packX (x :: r) = ([], 191) := by
  rcases h with ⟨h0, _, _⟩ | ⟨h0, _, h4, _, _⟩
  · subst h0
    have hlx : x = l := by simpa using hl
    subst hlx
    rcases hb with hb | hb | hb
    · rw [h1] at hb
      have : namesP [47] = some [] := by decide
      rw [this] at hb; cases hb
    · exact packX_bad h1 h2 (.inl hb)
    · omega
  · refine packX_bad h1 h2 (.inr ?_)
    rw [← h4, pinv_drop hl, restB]
    rcases hb with hb | hb | hb
    · rw [hb]; rfl
    · rw [hb]; simp
    · rw [hb.2]; simp
theorem pinv_first {x : Lf} {r : List Lf} {ys : List Int} {ahead : List ByteArray} {dir : Bool} (h : PInv x r 0 ys ahead dir) (h2 : x.ty = 2) (hok : okL x = true) : PInv x r 1 ys [] true ∧ ahead = [] := by
  rcases h with ⟨_, h3, h4⟩ | ⟨h0, _⟩
  · refine ⟨.inr ⟨Nat.le_refl _, hok, rfl, ?_, ?_⟩, h3⟩
    · rw [h4]
      have hm := okL_ty hok
      have e : IntKind.u64.wrap x.mode = x.mode := u64_in ⟨by omega, by omega⟩
      unfold headM headX
      rw [e]
      rfl
    · simp [h2]
  · omega
theorem pinv_next {x : Lf} {r : List Lf} {i : Nat} {ys : List Int} {ahead : List ByteArray} {dir : Bool} {l : Lf} (h : PInv x r (i + 1) ys ahead dir) (hl : (x :: r)[i + 1]? = some l)
    (hn : (namesP l.path.data.toList).isSome = true) (hok : okL l = true) (hs : stepX ltB ahead dir (nmL l) = true) : PInv x r (i + 1 + 1) (ys ++ pieceB l (nmL l)) (nmL l) (decide (l.ty = 2)) := by
  rcases h with ⟨h0, _, _⟩ | ⟨h0, h3, h4, h5, h6⟩
  · omega
  · refine .inr ⟨by omega, h3, ?_, ?_, ?_⟩
    · rw [← h4, pinv_drop hl, restB, hn, hok, hs]; rfl
    · rw [← h5, pinv_drop hl, List.flatMap_cons]; simp
    · rw [show i + 1 + 1 - 1 = i + 1 by omega, List.getD, hl]; rfl
theorem bytesOk_app {a b : List Int} (ha : bytesOk a) (hb : bytesOk b) : bytesOk (a ++ b) := fun x hx => by
  rcases List.mem_append.1 hx with h | h
  · exact ha x h
  · exact hb x h
theorem bytesOk_one {v : Int} (h : 0 ≤ v ∧ v ≤ 255) : bytesOk [v] := fun x hx => by rw [List.mem_singleton.1 hx]; exact h
theorem bytesI_ok (s : ByteArray) : bytesOk (bytesI s) := by
  intro x hx
  obtain ⟨c, _, rfl⟩ := List.mem_map.mp hx
  have := c.toNat_lt
  omega
theorem stretB_ok {L : List Int} (hL : bytesOk L) : bytesOk ((stretX L).flatMap (stretB L)) := by
  intro x hx
  obtain ⟨s, hs, hx⟩ := List.mem_flatMap.1 hx
  have hm := stretS_mem L L.length 0 (Nat.zero_le _) s hs
  unfold stretB at hx
  rcases List.mem_cons.1 hx with h | h
  · rcases hm.1 with e | e <;> (rw [h, e]; decide)
  · rcases List.mem_append.1 h with h | h
    · exact le_mem _ 4 x h
    · split at h
      · exact (hL.drop _).take _ x h
      · cases h
theorem piece_ok {l : Lf} {ns : List ByteArray} (hok : okL l = true) (hd : bytesOk l.data) (h64 : ns.length ≤ 64) (hsz : (ns.getLastD ⟨#[]⟩).size ≤ 63) : bytesOk (pieceB l ns) ∧ (pieceB l ns).length ≤ 256 + 6 * l.data.length := by
  obtain ⟨t1, t3, m0, m1, dl, dnil, gnil, gok⟩ := okL_ty hok
  have hc := stretX_len l.data
  have htg : l.ty = 3 → l.tgt.size ≤ 127 := fun e => by
    have h := gok e
    unfold targetB at h
    simp only [Bool.and_eq_true, decide_eq_true_eq] at h
    exact h.1.2
  unfold pieceB pieceH pieceT
  constructor
  · refine bytesOk_app (bytesOk_app (bytesOk_app (bytesOk_app (bytesOk_app (fun x hx => ?_) (le_mem _ _)) (le_mem _ _)) (bytesOk_one (by omega))) (bytesI_ok _)) ?_
    · rcases List.mem_cons.1 hx with h | h
      · omega
      · rw [List.mem_singleton.1 h]; omega
    · split
      · unfold cutB; exact bytesOk_app (le_mem _ _) (stretB_ok hd)
      · split
        · rename_i h3
          have := htg h3
          exact bytesOk_app (bytesOk_one (by omega)) (bytesI_ok _)
        · exact fun x hx => by cases hx
  · have h9 : (if l.ty = 1 then cutB l.data else if l.ty = 3 then [(l.tgt.size : Int)] ++ bytesI l.tgt else []).length ≤ 132 + 6 * l.data.length := by
      split
      · unfold cutB; rw [List.length_append, le_length]; omega
      · split
        · rename_i h3
          have := htg h3
          rw [List.length_append, bytesI_length]; simp; omega
        · simp
    simp only [List.length_append, List.length_cons, List.length_nil, le_length, bytesI_length]
    omega
/-- a row of names lies elsewhere than bytes of the call's own -/
theorem SRow.grown {W W' : World} {na : Option Addr} {ns : List ByteArray} {B : Nat} {a : Option Addr} {d : Nat} {ys : List Int} (h : SRow W na ns) (O : OwnB W B (.slice a ys.length d) ys) (hy : 0 < ys.length) (q : W.grownBy W' (Value.slice a ys.length d).ownBlock) : SRow W' na ns := fun i hi => by
  obtain ⟨g, hA, hc⟩ := h i hi
  refine ⟨g, hA, q.cell hc (fun e => ?_)⟩
  obtain ⟨ga, ca, hv, _, _⟩ := O.blk hy
  obtain ⟨g2, hA2, hc2⟩ := h 0 (by omega)
  rw [hA] at hA2
  injection hA2 with hA2
  injection hA2 with hA2
  subst hA2
  injection hv with e1 e2 e3
  subst e1 e3
  have e4 : g = ga := by simpa [Value.ownBlock] using e
  subst e4
  have := O.cellAt 0 hy
  rw [hc2] at this
  cases this

set_option maxRecDepth 100000 in
set_option maxHeartbeats 3200000 in
theorem pack_anyG (G : Lf → Nat) (A : Option Addr) (c : Nat) (tv : List (Lf × Value)) (w : World) (hw : Ok w) (hT : LAt w A tv) (hc : tv.length ≤ c) (hn : tv.length ≤ 268435456) (hs : ∀ p ∈ tv, p.1.path.size ≤ 1048575) (hst : ∀ p ∈ tv, 0 ≤ p.1.stamp ∧ p.1.stamp ≤ 18446744073709551615)
    (hG : ∀ p ∈ tv, okL p.1 = true → (namesP p.1.path.data.toList).isSome = true → nmL p.1 ≠ [] → (pieceB p.1 (nmL p.1)).length ≤ G p.1) (hW : (tv.map fun p => G p.1).sum ≤ 536870912) (hbd : ∀ p ∈ tv, bytesOk p.1.data) (hB0 : 0 < w.heap.size) :
    Calls Tryd.prog 21 #[.slice A tv.length c] w fun e w' => ∃ v, e = .returned (.tuple #[v, .int .i64 (packX (tv.map Prod.fst)).2]) ∧ OwnB w' w.heap.size v (packX (tv.map Prod.fst)).1 ∧ Fr w w' := by
  cases tv with
  | nil =>
    go_enter Tryd.func21, Tryd.ntmps21
    go_wp2_with fail
    exact ⟨rfl, _, results_tmp2 rfl _ _ _, _, rfl, OwnB.nil _ _, Fr.refl hw⟩
  | cons p tl =>
    obtain ⟨n, hn'⟩ : ∃ n, (p :: tl).length = n := ⟨_, rfl⟩
    have hnt : n = tl.length + 1 := by rw [← hn']; simp
    obtain ⟨g, o, hA, hg, hcells⟩ := hT.1.resolve_left (by simp)
    subst hA
    obtain ⟨PP, hPP⟩ : ∃ PP, packX ((p :: tl).map Prod.fst) = PP := ⟨_, rfl⟩
    rw [hPP]
    rw [List.map_cons] at hPP
    rw [hn'] at hc hn ⊢
    have hcell : ∀ i q, (p :: tl)[i]? = some q → ∀ j v, (lcell q)[j]? = some v → w.cell? ⟨g, o + i * 6 + j, none⟩ = some v := fun i q hi j v hv => hcells i (lcell q) (by rw [List.getElem?_map, hi]; rfl) j v (by
      have h1 := (List.getElem?_eq_some_iff.1 hv).1
      have h2 : (lcell q).length = 6 := rfl
      omega) hv
    obtain ⟨x, pv⟩ := p
    have r0 : w.cell? ⟨g, o, none⟩ = some (.string x.path) := by have := hcell 0 (x, pv) rfl 0 _ rfl; simpa using this
    have r1 : w.cell? ⟨g, o + 1, none⟩ = some (.int .i64 x.ty) := by have := hcell 0 (x, pv) rfl 1 _ rfl; simpa using this
    have r2 : w.cell? ⟨g, o + 2, none⟩ = some (.int .i64 x.mode) := by have := hcell 0 (x, pv) rfl 2 _ rfl; simpa using this
    have r3 : w.cell? ⟨g, o + 3, none⟩ = some (.int .u64 x.stamp) := by have := hcell 0 (x, pv) rfl 3 _ rfl; simpa using this
    have d0 : ¬ ((n : Int) = 0) := by omega
    have d1 : (0 : Int) < (n : Int) := by omega
    have HPP := Lib.hid hPP
    clear hPP
    obtain ⟨bp, hbp⟩ : ∃ b : Bool, (x.path.toList == [47]) = b := ⟨_, rfl⟩
    have hbp2 : decide (x.path.data.toList = [47]) = bp := by rw [← hbp, toL, Bool.eq_iff_iff]; simp
    cases bp with
    | false =>
      have hPe : PP = ([], 190) := by rw [← HPP.out]; exact packX_head (fun e => by rw [decide_eq_true e.1] at hbp2; cases hbp2)
      subst hPe
      clear hbp2
      go_enter Tryd.func21, Tryd.ntmps21
      go_wp2_with fail
      exact ⟨rfl, _, results_tmp2 rfl _ _ _, _, rfl, OwnB.nil _ _, Fr.refl hw⟩
    | true =>
      have hp47 : x.path.data.toList = [47] := of_decide_eq_true hbp2
      clear hbp2
      by_cases ht2 : x.ty = 2
      · have HH := Lib.hid (And.intro hp47 ht2)
        have d2 : (x.ty != 2) = false := by simp [ht2]
        clear hp47 ht2
        go_enter Tryd.func21, Tryd.ntmps21
        go_upto_region 3 with fail
        have f0 := (Fr.refl hw).drew
        obtain ⟨wk, gk, hgk, hcv, fk, hgk2, Hk⟩ := head_row f0.ok
        have hBk : BytesAt wk (some ⟨gk, 0, none⟩) [80, 82, 67, 76, 1] := by
          refine .inr ⟨gk, 0, rfl, hgk2, fun i y hy => ?_⟩
          rw [Nat.zero_add]
          refine blk_cell Hk ?_
          have hi : i < 5 := (List.getElem?_eq_some_iff.1 hy).1
          rcases (by omega : i = 0 ∨ i = 1 ∨ i = 2 ∨ i = 3 ∨ i = 4) with rfl | rfl | rfl | rfl | rfl <;> (simp at hy; subst hy; rfl)
        have hmr : 0 ≤ IntKind.u64.wrap x.mode ∧ IntKind.u64.wrap x.mode ≤ 18446744073709551615 := by rw [IntKind.wrap_u64]; omega
        have hxs := hst (x, pv) List.mem_cons_self
        dsimp only at hxs
        have fk2 := f0.trans fk
        have HP1 := put_first ⟨gk, 0, none⟩ [80, 82, 67, 76, 1] (IntKind.u64.wrap x.mode) 2 hmr.1 hmr.2 (by decide) (by decide) wk fk2.ok hBk (by decide)
        obtain ⟨y1, hy1⟩ : ∃ y, [80, 82, 67, 76, 1] ++ le (IntKind.u64.wrap x.mode) 2 = y := ⟨_, rfl⟩
        have hl1 : y1.length = 7 := by rw [← hy1, List.length_append, le_length]; rfl
        rw [hy1] at HP1
        obtain ⟨M, hM⟩ : ∃ M, IntKind.u64.wrap x.mode = M := ⟨_, rfl⟩
        rw [hM] at HP1
        have HY1 := Lib.hid hy1
        have HL1 := Lib.hid hl1
        have HMM := Lib.hid hM
        clear hy1 hl1 hmr
        refine Reg.wp_region_late (fun w' => Fr w w') 13 [2, 3, 4, 5, 6, 8, 9, 10, 11] [0, 1, 7, 12, 13] (by kernel_rfl) (by kernel_rfl) f0 ?_
        obtain ⟨wd, hwd⟩ : ∃ wd, w.drew = wd := ⟨_, rfl⟩
        rw [hwd] at f0 hcv hgk fk ⊢
        clear hwd
        iterate 9
          refine Reg.wpLateT_step (v := ?_) rfl ?_ (fun w' hS => ?_) ?_
          rotate_left
          · simp [Region.wanted]
          · have s0 := hS.cell r0
            have s2 := hS.cell r2
            have s3 := hS.cell r3
            go_simp
            try (first | rfl | exact ⟨rfl, rfl⟩)
        refine Reg.wpMainT_run (v := (.slice (some ⟨gk, 0, none⟩) 5 5)) (w' := wd.alloc (.cells #[.int .u8 80, .int .u8 82, .int .u8 67, .int .u8 76, .int .u8 1] 5)) rfl (by simp [Region.wanted]) ?_ (.inr (f0.alloc _)) ?_
        · go_simp
          try (first | rfl | exact ⟨rfl, rfl⟩)
        refine Reg.wpMainT_run (v := (.slice (some ⟨gk, 0, none⟩) 5 5)) (w' := wk) rfl (by simp [Region.wanted]) ?_ (.inr fk2) ?_
        · go_simp
          try (first | rfl | exact ⟨rfl, rfl⟩)
        refine Reg.wpMainT_enter (fn := 39) (args := #[.slice (some ⟨gk, 0, none⟩) 5 5, .int .u64 M, .int .i64 2]) rfl (by simp [Region.wanted]) ?_ HP1 ?_
        · go_simp
          try (first | rfl | exact ⟨rfl, rfl⟩)
        rintro e w2 ⟨a2, d2, rfl, O2, q2⟩
        have f2 := fk2.trans (fr_of_grown fk2.ok q2)
        refine ⟨_, rfl, .inr f2, ?_⟩
        have hlow := fk2.size
        have O2' := O2.low hlow
        have HP2 := put_any w.heap.size a2 d2 y1 x.stamp 8 hxs.1 hxs.2 (by decide) w2 f2.ok O2' f2.size (by have := HL1.out; omega)
        obtain ⟨y2, hy2⟩ : ∃ y, y1 ++ le x.stamp 8 = y := ⟨_, rfl⟩
        have hl2 : y2.length = 15 := by rw [← hy2, List.length_append, le_length]; have := HL1.out; omega
        rw [hy2] at HP2
        have HY2 := Lib.hid hy2
        have HL2 := Lib.hid hl2
        clear hy2 hl2
        refine Reg.wpMainT_enter (fn := 39) (args := #[.slice a2 y1.length d2, .int .u64 x.stamp, .int .i64 8]) rfl (by simp [Region.wanted]) ?_ HP2 ?_
        · go_simp
          try (first | rfl | exact ⟨rfl, rfl⟩)
        rintro e w3 ⟨a3, d3, rfl, O3, q3, i3⟩
        have f3 : Fr w w3 := Fr.row f2 hw q3 (fun k e => (World.ownsRow.lt O2' k e).1)
        refine ⟨_, rfl, .inr f3, ?_⟩
        refine Reg.wpMainT_run (v := (.slice a3 y2.length d3)) (w' := w3) rfl (by simp [Region.wanted]) ?_ (.inl rfl) ?_
        · go_simp
          try (first | rfl | exact ⟨rfl, rfl⟩)
        refine Reg.wpMainT_nil ?_
        simp only [List.getElem_toArray, List.getElem_cons_succ, List.getElem_cons_zero, Act.put, List.setIfInBounds_toArray, List.set_cons_zero, List.set_cons_succ]
        have HM2 : Hid (y2 = headM x) := Lib.hid (by rw [← HY2.out, ← HY1.out]; rfl)
        have hb2 : bytesOk y2 := by
          rw [HM2.out]
          unfold headM
          refine bytesOk_app (bytesOk_app (fun z hz => ?_) (le_mem _ _)) (le_mem _ _)
          simp at hz
          omega
        have HB2 := Lib.hid hb2
        have HO3 := Lib.hid O3
        have HF3 := Lib.hid f3
        clear hb2 O3 f3 q3 i3 O2 O2' q2 f2 HP2 HP1 hcv hgk Hk hBk fk fk2 f0 r0 r1 r2 r3 hlow HY1 HY2 HMM hbp
        go_wp2_with fail
        go_loopg [4, 5, 45] n (fun k v4 v5 v45 wc => ∃ (i : Nat) (ys : List Int) (a : Option Addr) (d : Nat) (ahead : List ByteArray) (na : Option Addr) (nc : Nat) (dir : Bool), i + k = n ∧ v4 = .slice a ys.length d ∧ v5 = .slice na ahead.length nc ∧ v45 = .int .i64 i ∧ ahead.length ≤ nc ∧ ahead.length ≤ 64 ∧ Hid (PInv x (tl.map Prod.fst) i ys ahead dir) ∧ Hid (OwnB wc w.heap.size (.slice a ys.length d) ys) ∧ Hid (SRow wc na ahead) ∧ Hid (Fr w wc) ∧ Hid (bytesOk ys) ∧ Hid (15 ≤ ys.length ∧ ys.length ≤ 15 + ((((x, pv) :: tl).take i).map fun p => G p.1).sum))
        case atStart => exact ⟨0, y2, a3, d3, [], none, 0, true, by omega, rfl, rfl, rfl, Nat.le_refl _, by simp, Lib.hid (.inl ⟨rfl, rfl, HM2.out⟩), HO3, Lib.hid (fun i hi => by cases hi), HF3, HB2, Lib.hid (by rw [HL2.out]; simp)⟩
        case round =>
          obtain ⟨i, ys, a, d, ahead, na, nc, dir, hik, rfl, rfl, rfl, hnc, h64, HI, HO, HS, HF, HB, HL⟩ := hrel
          cases gk with
          | zero =>
            obtain rfl : i = n := by omega
            have d5 : decide ((i : Int) < (i : Int)) = false := decide_eq_false (by omega)
            obtain ⟨_, hx1, hx2, hx3, _⟩ := HI.out.resolve_left (fun e => by omega)
            have hdr : (x :: tl.map Prod.fst).drop i = [] := List.drop_eq_nil_of_le (by simp; omega)
            rw [hdr] at hx2 hx3
            have hPe : PP = (bodyP x (tl.map Prod.fst) ++ le (crcI (bodyP x (tl.map Prod.fst))) 4, 0) := by rw [← HPP.out]; exact packX_good HH.out.1 HH.out.2 hx1 (by rw [← hx2]; rfl)
            have hys : ys ++ [255] = bodyP x (tl.map Prod.fst) := by
              unfold bodyP
              rw [← hx3]
              simp
            subst hPe
            have hlen := HL.out
            rw [List.take_of_length_le (by simp; omega)] at hlen
            obtain ⟨g5, hg5⟩ : ∃ g, wr.heap.size = g := ⟨_, rfl⟩
            obtain ⟨w5, v6, w6, hw5, hap, O6, q6, i6⟩ := append_lit 22 w.heap.size a d ys [255] wr HO.out (by simp; omega) HF.out.size
            rw [hg5] at hap
            simp only [List.map_cons, List.map_nil, List.length_cons, List.length_nil, Nat.zero_add, Nat.reduceAdd] at hw5 hap
            have hbB : bytesOk (ys ++ [255]) := bytesOk_app HB.out (bytesOk_one (by decide))
            have hlB : (ys ++ [255]).length ≤ 536870928 := by rw [List.length_append]; simp; omega
            rw [hys] at O6 hbB hlB
            obtain ⟨BB, hBB⟩ : ∃ BB, bodyP x (tl.map Prod.fst) = BB := ⟨_, rfl⟩
            rw [hBB] at O6 hbB hlB
            obtain ⟨a6, d6, rfl⟩ := O6.form
            have f6 : Fr w w6 := Fr.row HF.out hw q6 (fun k e => (World.ownsRow.lt HO.out k e).1)
            have hcrr := crcI_rg hbB
            have hsum := sum_any a6 d6 BB hbB O6.at.2.2 (by omega) w6 f6.ok O6.at.1
            obtain ⟨cr, hcr⟩ : ∃ cr, crcI BB = cr := ⟨_, rfl⟩
            rw [hcr] at hsum hcrr
            have hput := put_any w.heap.size a6 d6 BB cr 4 hcrr.1 (by omega) (by decide) w6 f6.ok O6 f6.size (by omega)
            obtain ⟨ZZ, hZZ⟩ : ∃ Z, BB ++ le cr 4 = Z := ⟨_, rfl⟩
            rw [hZZ] at hput
            have HEQ : Hid (bodyP x (tl.map Prod.fst) ++ le (crcI (bodyP x (tl.map Prod.fst))) 4 = ZZ) := Lib.hid (by rw [hBB, hcr, hZZ])
            have e9 : IntKind.u64.wrap cr = cr := u64_in ⟨by omega, by omega⟩
            have HF6 := Lib.hid (And.intro f6 O6)
            have HSum := Lib.hid hsum
            have HPut := Lib.hid hput
            clear hsum hput f6 O6 hys hdr hx2 hx3 hbB hlB hlen hcrr hcr hZZ hBB q6 i6
            go_wp2_with (first
              | (at_builtin; refine wpList_append_run rfl _ _ 22 22 rfl (by simp [Act.eval]) (by simp [Act.eval]) hap ?_)
              | (go_at_call 40; refine HSum.out.mono ?_; rintro e w7 ⟨rfl, he⟩; replace he := he.symm; subst he)
              | (go_at_call 39; refine HPut.out.mono ?_; rintro e w8 ⟨a8, d8, rfl, O8, q8, i8⟩))
            refine ⟨rfl, _, results_tmp2 rfl _ _ _, _, rfl, ?_, Fr.row HF6.out.1 hw q8 (fun k e => (World.ownsRow.lt HF6.out.2 k e).1)⟩
            rw [HEQ.out]
            exact O8
          | succ k =>
            have d5 : decide ((i : Int) < (n : Int)) = true := decide_eq_true (by omega)
            have d6 : (0 : Int) ≤ (i : Int) := by omega
            have d7 : (i : Int) < (n : Int) := by omega
            obtain ⟨⟨l, lv⟩, hq⟩ : ∃ q, ((x, pv) :: tl)[i]? = some q := ⟨_, List.getElem?_eq_getElem (by omega)⟩
            have hmem := List.mem_of_getElem? hq
            obtain ⟨da, dd, hlv, hBD, hdd, hdn⟩ := hT.2 _ hmem
            dsimp only at hlv hBD hdd
            subst hlv
            have b0 := HF.out.cell (hcell i _ hq 0 _ rfl)
            have b1 := HF.out.cell (hcell i _ hq 1 _ rfl)
            have b2 := HF.out.cell (hcell i _ hq 2 _ rfl)
            have b3 := HF.out.cell (hcell i _ hq 3 _ rfl)
            have b4 := HF.out.cell (hcell i _ hq 4 _ rfl)
            have b5 := HF.out.cell (hcell i _ hq 5 _ rfl)
            simp only [Nat.add_zero] at b0
            obtain ⟨w1, g1, hg1, hw1, f1, hz1, H1⟩ := boxedN HF.out.ok #[.string l.path, .int .i64 l.ty, .int .i64 l.mode, .int .u64 l.stamp, .slice da l.data.length dd, .string l.tgt] 45
            obtain ⟨l0, l1, l2, l3, l4, l5⟩ := blk6 H1
            have hps := hs _ hmem
            dsimp only at hps
            have HN : Hid (∀ W, Fr w1 W → Calls Tryd.prog 46 #[.string l.path] W fun e w' => ∃ A c, e = .returned (.tuple #[.slice A (namesR l.path.data.toList).1.length c, .bool (namesR l.path.data.toList).2]) ∧ SRow w' A (namesR l.path.data.toList).1 ∧ (namesR l.path.data.toList).1.length ≤ c ∧ Fr W w') := Lib.hid (fun W q => by
              have h := namesOf_any l.path.data.toList (by have : l.path.data.toList.length = l.path.size := rfl; omega) W q.ok
              rwa [show (⟨l.path.data.toList.toArray⟩ : ByteArray) = l.path from by simp] at h)
            have HG : Hid (∀ W, Fr w1 W → Calls Tryd.prog 47 #[.agg #[.string l.path, .int .i64 l.ty, .int .i64 l.mode, .int .u64 l.stamp, .slice da l.data.length dd, .string l.tgt]] W fun e w' => e = .returned (.bool (okL l)) ∧ Fr W w') := Lib.hid (fun W q => good_any l.path l.ty l.mode l.stamp da l.data.length dd l.tgt W q.ok)
            obtain ⟨ok, hok⟩ : ∃ b, okL l = b := ⟨_, rfl⟩
            rw [hok] at HG
            obtain ⟨⟨ns, nb⟩, hns⟩ : ∃ q, namesR l.path.data.toList = q := ⟨_, rfl⟩
            rw [hns] at HN
            dsimp only at HN
            have HNS := Lib.hid hns
            have HOK := Lib.hid hok
            have HQ := Lib.hid hq
            clear hns hok hq hcells
            have HCell := Lib.hid hcell
            clear hcell
            have hql : (x :: tl.map Prod.fst)[i]? = some l := by
              have := congrArg (Option.map Prod.fst) HQ.out
              rw [← List.getElem?_map] at this
              simpa using this
            have HQL := Lib.hid hql
            clear hql
            cases nb with
            | false =>
              have hPe : PP = ([], 191) := by rw [← HPP.out]; exact pinv_bad HI.out HQL.out HH.out.1 HH.out.2 (.inl (names_R HNS.out).1)
              subst hPe
              go_wp2_with (first
                | (go_at_call 46; refine (HN.out _ (Fr.refl f1.ok)).mono ?_; rintro e w2 ⟨A2, c2, rfl, S2, hc2, q⟩))
              go_ret2
              exact ⟨_, rfl, OwnB.nil _ _, (HF.out.trans f1).trans q⟩
            | true =>
              cases ok with
              | false =>
                have hPe : PP = ([], 191) := by rw [← HPP.out]; exact pinv_bad HI.out HQL.out HH.out.1 HH.out.2 (.inr (.inl HOK.out))
                subst hPe
                go_wp2_with (first
                  | (go_at_call 46; refine (HN.out _ (Fr.refl f1.ok)).mono ?_; rintro e w2 ⟨A2, c2, rfl, S2, hc2, q⟩; replace l0 := q.cell l0; replace l1 := q.cell l1; replace l2 := q.cell l2; replace l3 := q.cell l3; replace l4 := q.cell l4; replace l5 := q.cell l5)
                  | (go_at_call 47; refine (HG.out _ q).mono ?_; rintro e w3 ⟨rfl, q3⟩))
                go_ret2
                exact ⟨_, rfl, OwnB.nil _ _, ((HF.out.trans f1).trans q).trans q3⟩
              | true =>
                have hnk := names_R HNS.out
                rcases Nat.eq_zero_or_pos i with hi0 | hi0
                · subst hi0
                  simp only [Nat.zero_mul, Nat.add_zero] at b0 b1 b2 b3 b4 b5
                  have hlx : x = l := by simpa using HQL.out
                  have hnx := pinv_first HI.out HH.out.2 (by rw [hlx]; exact HOK.out)
                  obtain rfl := hnx.2
                  have hnx := hnx.1
                  have HNX := Lib.hid hnx
                  clear hnx hlx
                  go_wp2_with (first
                    | (go_at_call 46; refine (HN.out _ (Fr.refl f1.ok)).mono ?_; rintro e w2 ⟨A2, c2, rfl, S2, hc2, q⟩; replace l0 := q.cell l0; replace l1 := q.cell l1; replace l2 := q.cell l2; replace l3 := q.cell l3; replace l4 := q.cell l4; replace l5 := q.cell l5)
                    | (go_at_call 47; refine (HG.out _ q).mono ?_; rintro e w3 ⟨rfl, q3⟩))
                  have fall := ((HF.out.trans f1).trans q).trans q3
                  have fr3 := (f1.trans q).trans q3
                  go_roundg k
                  case measure => omega
                  case rel =>
                    refine ⟨1, ys, a, d, [], na, nc, true, by omega, rfl, rfl, by go_num, by simp, by simp, HNX, Lib.hid (OwnB.fr HO.out fr3), Lib.hid (fun i hi => by cases hi), Lib.hid fall, HB, Lib.hid ?_⟩
                    have := HL.out
                    simp at this
                    refine ⟨this.1, ?_⟩
                    simp
                    omega
                · have d8 : ¬ ((i : Int) = 0) := by omega
                  obtain ⟨j, hj⟩ : ∃ j, j + 1 = i := ⟨i - 1, by omega⟩
                  have e8 : IntKind.i64.wrap ((i : Int) - 1) = (j : Int) := by rw [IntWalk.i64_in _ ⟨by omega, by omega⟩]; omega
                  have d9 : (0 : Int) ≤ (j : Int) := by omega
                  have d10 : (j : Int) < (n : Int) := by omega
                  obtain ⟨m, hm⟩ : ∃ m, ns.length = m := ⟨_, rfl⟩
                  rw [hm] at HN
                  have hm64 : m ≤ 64 := by
                    rw [← hm, ← hnk.2]
                    cases hq : namesP l.path.data.toList with
                    | none => simp
                    | some q => exact (namesP_good hq).2.2.1
                  have HFo : Hid (∀ W A2 c2, Fr w1 W → SRow W A2 ns → m ≤ c2 → Calls Tryd.prog 48 #[.slice na ahead.length nc, .slice A2 m c2] W fun e w' => e = .returned (.tuple #[.int .i64 ((sharedX ahead ns : Nat) : Int), .bool (behindX ltB ahead ns)]) ∧ Fr W w') := Lib.hid (fun W A2 c2 q s h => by
                    have := follows_any na A2 nc c2 ahead ns (by omega) (by omega) W q.ok (HS.out.fr (f1.trans q)) hnc s (by rw [hm]; exact h)
                    rwa [hm] at this)
                  obtain ⟨sh, hsh⟩ : ∃ s, sharedX ahead ns = s := ⟨_, rfl⟩
                  obtain ⟨bh, hbh⟩ : ∃ s, behindX ltB ahead ns = s := ⟨_, rfl⟩
                  rw [hsh, hbh] at HFo
                  have e9 : IntKind.i64.wrap ((m : Int) - 1) = (m : Int) - 1 := IntWalk.i64_in _ ⟨by omega, by omega⟩
                  have hshl := shared_le ahead ns
                  have HM := Lib.hid hm
                  have HJ := Lib.hid hj
                  have HSB := Lib.hid (And.intro hsh hbh)
                  obtain ⟨⟨lj, vj⟩, hqj⟩ : ∃ q, ((x, pv) :: tl)[j]? = some q := ⟨_, List.getElem?_eq_getElem (by omega)⟩
                  have cj := (HF.out.trans f1).cell (HCell.out j _ hqj 1 _ rfl)
                  have hdir : dir = decide (lj.ty = 2) := by
                    rcases HI.out with ⟨h0, _⟩ | ⟨_, _, _, _, h6⟩
                    · omega
                    · rw [h6, show i - 1 = j by omega]
                      have h7 := congrArg (Option.map Prod.fst) hqj
                      rw [← List.getElem?_map] at h7
                      have h8 : (x :: tl.map Prod.fst)[j]? = some lj := by simpa using h7
                      rw [List.getD, h8]
                      rfl
                  have hstep : stepX ltB ahead dir (nmL l) = (bh && decide (m - 1 ≤ sh) && (decide (m - 1 ≠ ahead.length) || decide (lj.ty = 2))) := by
                    have e : nmL l = ns := hnk.2
                    unfold stepX
                    rw [e, hbh, hsh, hm, hdir]
                  have HStep := Lib.hid hstep
                  clear hm hj hsh hbh hqj hdir hstep
                  have hno : ∀ (h : stepX ltB ahead dir (nmL l) = false), PP = ([], 191) := fun h => by rw [← HPP.out]; exact pinv_bad HI.out HQL.out HH.out.1 HH.out.2 (.inr (.inr ⟨hi0, h⟩))
                  have HNo := Lib.hid hno
                  clear hno
                  cases bh with
                  | false =>
                    obtain rfl := HNo.out (by rw [HStep.out]; rfl)
                    go_wp2_with (first
                      | (go_at_call 46; refine (HN.out _ (Fr.refl f1.ok)).mono ?_; rintro e w2 ⟨A2, c2, rfl, S2, hc2, q⟩; replace l0 := q.cell l0; replace l1 := q.cell l1; replace l2 := q.cell l2; replace l3 := q.cell l3; replace l4 := q.cell l4; replace l5 := q.cell l5)
                      | (go_at_call 47; refine (HG.out _ q).mono ?_; rintro e w3 ⟨rfl, q3⟩)
                      | (go_at_call 48; refine (HFo.out _ A2 c2 (q.trans q3) (S2.fr q3) hc2).mono ?_; rintro e w4 ⟨rfl, q4⟩))
                    go_ret2
                    exact ⟨_, rfl, OwnB.nil _ _, (((HF.out.trans f1).trans q).trans q3).trans q4⟩
                  | true =>
                    have hne : ns ≠ [] := behind_ne ltB HSB.out.2
                    obtain ⟨u, hu⟩ : ∃ u, u + 1 = m := ⟨m - 1, by have := HM.out; have := List.length_pos_iff.mpr hne; omega⟩
                    replace e9 : IntKind.i64.wrap ((m : Int) - 1) = (u : Int) := by rw [e9]; omega
                    have hu1 : m - 1 = u := by omega
                    rw [hu1] at HStep
                    have HU := Lib.hid hu
                    clear hu hu1
                    by_cases k1 : sh < u
                    · obtain rfl := HNo.out (by rw [HStep.out, decide_eq_false (by omega : ¬ u ≤ sh)]; rfl)
                      have k1' : (sh : Int) < (u : Int) := by omega
                      go_wp2_with (first
                        | (go_at_call 46; refine (HN.out _ (Fr.refl f1.ok)).mono ?_; rintro e w2 ⟨A2, c2, rfl, S2, hc2, q⟩; replace l0 := q.cell l0; replace l1 := q.cell l1; replace l2 := q.cell l2; replace l3 := q.cell l3; replace l4 := q.cell l4; replace l5 := q.cell l5)
                        | (go_at_call 47; refine (HG.out _ q).mono ?_; rintro e w3 ⟨rfl, q3⟩)
                        | (go_at_call 48; refine (HFo.out _ A2 c2 (q.trans q3) (S2.fr q3) hc2).mono ?_; rintro e w4 ⟨rfl, q4⟩))
                      go_ret2
                      exact ⟨_, rfl, OwnB.nil _ _, (((HF.out.trans f1).trans q).trans q3).trans q4⟩
                    · have k1' : (u : Int) ≤ (sh : Int) := by omega
                      have hpiece : Hid (∀ W A2 c2, Fr w1 W → SRow W A2 ns → m ≤ c2 → okL l = true → Calls Tryd.prog 49 #[.slice a ys.length d, .agg #[.string l.path, .int .i64 l.ty, .int .i64 l.mode, .int .u64 l.stamp, .slice da l.data.length dd, .string l.tgt], .slice A2 m c2] W fun e w' => ∃ a' d', e = .returned (.slice a' (ys ++ pieceB l ns).length d') ∧ OwnB w' w.heap.size (.slice a' (ys ++ pieceB l ns).length d') (ys ++ pieceB l ns) ∧ W.grownBy w' (Value.slice a ys.length d).ownBlock ∧ Ownish W (Value.slice a ys.length d).ownBlock (Value.slice a' (ys ++ pieceB l ns).length d').ownBlock) := Lib.hid (fun W A2 c2 q s h hk => by
                        have f := HF.out.trans (f1.trans q)
                        have := piece_any w.heap.size a d ys l da dd ns A2 c2 W q.ok (OwnB.fr HO.out (f1.trans q)) f.size hB0 (hBD.fr f) hdd (fun a' e => by
                          unfold datA at e
                          split at e
                          · cases e
                          · rename_i h0
                            rcases hBD with hBD | ⟨gd, od, e2, hgd, _⟩
                            · exact absurd hBD h0
                            · rw [e2] at e; injection e with e; subst e; exact hgd) hdn s.off hne (by rw [HM.out]; exact hm64) (by rw [HM.out]; exact h) hk (hst _ hmem) (by
                          have e : (namesP l.path.data.toList) = some ns := by
                            have h1 := hnk.1; have h2 := hnk.2
                            cases hq : namesP l.path.data.toList with
                            | none => rw [hq] at h1; cases h1
                            | some q => rw [hq] at h2; rw [← h2]; rfl
                          have hg := (namesP_good e).2.1
                          have hl : ns.getLastD ⟨#[]⟩ ∈ ns := by
                            rw [List.getLastD_eq_getLast?, List.getLast?_eq_some_getLast hne]
                            exact List.getLast_mem hne
                          exact (nameB_all (hg _ hl)).2.2.2.1) (by
                          have h1 := HL.out.2
                          have h2 : ((((x, pv) :: tl).take i).map fun p => G p.1).sum ≤ (((x, pv) :: tl).map fun p => G p.1).sum := by
                            conv => rhs; rw [← List.take_append_drop i ((x, pv) :: tl)]
                            rw [List.map_append, List.sum_append]
                            omega
                          omega)
                        rwa [HM.out] at this)
                      obtain ⟨zs, hzs⟩ : ∃ z, ys ++ pieceB l ns = z := ⟨_, rfl⟩
                      rw [hzs] at hpiece
                      have HZs := Lib.hid hzs
                      clear hzs
                      by_cases k2 : u = ahead.length
                      · subst k2
                        by_cases k3 : lj.ty = 2
                        · have k3' : (lj.ty != 2) = false := by simp [k3]
                          have HK := Lib.hid (And.intro k1 k3)
                          clear k3 k1
                          go_wp2_with (first
                            | (go_at_call 46; refine (HN.out _ (Fr.refl f1.ok)).mono ?_; rintro e w2 ⟨A2, c2, rfl, S2, hc2, q⟩; replace l0 := q.cell l0; replace l1 := q.cell l1; replace l2 := q.cell l2; replace l3 := q.cell l3; replace l4 := q.cell l4; replace l5 := q.cell l5; replace cj := q.cell cj)
                            | (go_at_call 47; refine (HG.out _ q).mono ?_; rintro e w3 ⟨rfl, q3⟩; replace l0 := q3.cell l0; replace l1 := q3.cell l1; replace l2 := q3.cell l2; replace l3 := q3.cell l3; replace l4 := q3.cell l4; replace l5 := q3.cell l5; replace cj := q3.cell cj)
                            | (go_at_call 48; refine (HFo.out _ A2 c2 (q.trans q3) (S2.fr q3) hc2).mono ?_; rintro e w4 ⟨rfl, q4⟩; replace l0 := q4.cell l0; replace l1 := q4.cell l1; replace l2 := q4.cell l2; replace l3 := q4.cell l3; replace l4 := q4.cell l4; replace l5 := q4.cell l5; replace cj := q4.cell cj)
                            | (go_at_call 49; refine (hpiece.out _ A2 c2 ((q.trans q3).trans q4) ((S2.fr q3).fr q4) hc2 HOK.out).mono ?_; rintro e w5 ⟨a5, d5, rfl, O5, q5, i5⟩))
                          have fall := HF.out.trans (f1.trans ((q.trans q3).trans q4))
                          have fr4 := f1.trans ((q.trans q3).trans q4)
                          have O4 := OwnB.fr HO.out fr4
                          have hyp := HL.out.1
                          have S5 : SRow w5 A2 ns := SRow.grown ((S2.fr q3).fr q4) O4 (by omega) q5
                          have f5 : Fr w w5 := Fr.row fall hw q5 (fun k e => (World.ownsRow.lt O4 k e).1)
                          have hnm : nmL l = ns := hnk.2
                          have hsome : (namesP l.path.data.toList) = some ns := by
                            have h1 := hnk.1; have h2 := hnk.2
                            cases hq : namesP l.path.data.toList with
                            | none => rw [hq] at h1; cases h1
                            | some q => rw [hq] at h2; rw [← h2]; rfl
                          have hlast : (ns.getLastD ⟨#[]⟩).size ≤ 63 := by
                            have hg := (namesP_good hsome).2.1
                            have hl : ns.getLastD ⟨#[]⟩ ∈ ns := by
                              rw [List.getLastD_eq_getLast?, List.getLast?_eq_some_getLast hne]
                              exact List.getLast_mem hne
                            exact (nameB_all (hg _ hl)).2.2.2.1
                          have hpk := piece_ok HOK.out (hbd _ hmem) (by rw [HM.out]; exact hm64) hlast
                          have hnext : PInv x (tl.map Prod.fst) (i + 1) zs ns (decide (l.ty = 2)) := by
                            have h9 := HI.out
                            have hql := HQL.out
                            rw [← HJ.out] at h9 hql ⊢
                            have := pinv_next h9 hql hnk.1 HOK.out (by rw [HStep.out]; rw [decide_eq_true (by have := HK.out.1; omega), decide_eq_true HK.out.2]; simp)
                            rw [hnm, HZs.out] at this
                            exact this
                          have hlen2 : 15 ≤ zs.length ∧ zs.length ≤ 15 + ((((x, pv) :: tl).take (i + 1)).map fun p => G p.1).sum := by
                            have h1 := HL.out
                            have h2 : ((x, pv) :: tl).take (i + 1) = ((x, pv) :: tl).take i ++ [(l, .slice da l.data.length dd)] := by
                              have h3 := HQ.out
                              rw [List.take_add_one, h3]
                              rfl
                            rw [h2, List.map_append, List.sum_append, ← HZs.out, List.length_append]
                            have h4 : (pieceB l ns).length ≤ G l := by have h5 := hG _ hmem HOK.out hnk.1 (by rw [hnm]; exact hne); rw [hnm] at h5; exact h5
                            simp only [List.map_cons, List.map_nil, List.sum_cons, List.sum_nil]
                            omega
                          have HB5 : bytesOk zs := by rw [← HZs.out]; exact bytesOk_app HB.out hpk.1
                          have HR5 := Lib.hid (And.intro hnext (And.intro O5 (And.intro S5 (And.intro f5 (And.intro HB5 hlen2)))))
                          clear hnext O5 S5 f5 HB5 hlen2 hpk hlast hsome hnm O4 fr4 fall q5 i5
                          go_roundg k
                          case measure => omega
                          case rel =>
                            obtain ⟨z1, z2, z3, z4, z5, z6⟩ := HR5.out
                            exact ⟨i + 1, zs, a5, d5, ns, A2, c2, decide (l.ty = 2), by omega, rfl, by rw [HM.out], by go_num, by rw [HM.out]; exact hc2, by rw [HM.out]; exact hm64, Lib.hid z1, Lib.hid z2, Lib.hid z3, Lib.hid z4, Lib.hid z5, Lib.hid z6⟩
                        · have k3' : (lj.ty != 2) = true := by simp [k3]
                          obtain rfl := HNo.out (by rw [HStep.out, decide_eq_false k3]; simp)
                          clear k3
                          go_wp2_with (first
                            | (go_at_call 46; refine (HN.out _ (Fr.refl f1.ok)).mono ?_; rintro e w2 ⟨A2, c2, rfl, S2, hc2, q⟩; replace l0 := q.cell l0; replace l1 := q.cell l1; replace l2 := q.cell l2; replace l3 := q.cell l3; replace l4 := q.cell l4; replace l5 := q.cell l5; replace cj := q.cell cj)
                            | (go_at_call 47; refine (HG.out _ q).mono ?_; rintro e w3 ⟨rfl, q3⟩; replace l0 := q3.cell l0; replace l1 := q3.cell l1; replace l2 := q3.cell l2; replace l3 := q3.cell l3; replace l4 := q3.cell l4; replace l5 := q3.cell l5; replace cj := q3.cell cj)
                            | (go_at_call 48; refine (HFo.out _ A2 c2 (q.trans q3) (S2.fr q3) hc2).mono ?_; rintro e w4 ⟨rfl, q4⟩; replace l0 := q4.cell l0; replace l1 := q4.cell l1; replace l2 := q4.cell l2; replace l3 := q4.cell l3; replace l4 := q4.cell l4; replace l5 := q4.cell l5; replace cj := q4.cell cj))
                          go_ret2
                          exact ⟨_, rfl, OwnB.nil _ _, (((HF.out.trans f1).trans q).trans q3).trans q4⟩
                      · have k2' : ¬ ((u : Int) = (ahead.length : Int)) := by omega
                        have HK := Lib.hid (And.intro k1 k2)
                        clear k1 k2
                        go_wp2_with (first
                          | (go_at_call 46; refine (HN.out _ (Fr.refl f1.ok)).mono ?_; rintro e w2 ⟨A2, c2, rfl, S2, hc2, q⟩; replace l0 := q.cell l0; replace l1 := q.cell l1; replace l2 := q.cell l2; replace l3 := q.cell l3; replace l4 := q.cell l4; replace l5 := q.cell l5; replace cj := q.cell cj)
                          | (go_at_call 47; refine (HG.out _ q).mono ?_; rintro e w3 ⟨rfl, q3⟩; replace l0 := q3.cell l0; replace l1 := q3.cell l1; replace l2 := q3.cell l2; replace l3 := q3.cell l3; replace l4 := q3.cell l4; replace l5 := q3.cell l5; replace cj := q3.cell cj)
                          | (go_at_call 48; refine (HFo.out _ A2 c2 (q.trans q3) (S2.fr q3) hc2).mono ?_; rintro e w4 ⟨rfl, q4⟩; replace l0 := q4.cell l0; replace l1 := q4.cell l1; replace l2 := q4.cell l2; replace l3 := q4.cell l3; replace l4 := q4.cell l4; replace l5 := q4.cell l5; replace cj := q4.cell cj)
                          | (go_at_call 49; refine (hpiece.out _ A2 c2 ((q.trans q3).trans q4) ((S2.fr q3).fr q4) hc2 HOK.out).mono ?_; rintro e w5 ⟨a5, d5, rfl, O5, q5, i5⟩))
                        have fall := HF.out.trans (f1.trans ((q.trans q3).trans q4))
                        have fr4 := f1.trans ((q.trans q3).trans q4)
                        have O4 := OwnB.fr HO.out fr4
                        have hyp := HL.out.1
                        have S5 : SRow w5 A2 ns := SRow.grown ((S2.fr q3).fr q4) O4 (by omega) q5
                        have f5 : Fr w w5 := Fr.row fall hw q5 (fun k e => (World.ownsRow.lt O4 k e).1)
                        have hnm : nmL l = ns := hnk.2
                        have hsome : (namesP l.path.data.toList) = some ns := by
                          have h1 := hnk.1; have h2 := hnk.2
                          cases hq : namesP l.path.data.toList with
                          | none => rw [hq] at h1; cases h1
                          | some q => rw [hq] at h2; rw [← h2]; rfl
                        have hlast : (ns.getLastD ⟨#[]⟩).size ≤ 63 := by
                          have hg := (namesP_good hsome).2.1
                          have hl : ns.getLastD ⟨#[]⟩ ∈ ns := by
                            rw [List.getLastD_eq_getLast?, List.getLast?_eq_some_getLast hne]
                            exact List.getLast_mem hne
                          exact (nameB_all (hg _ hl)).2.2.2.1
                        have hpk := piece_ok HOK.out (hbd _ hmem) (by rw [HM.out]; exact hm64) hlast
                        have hnext : PInv x (tl.map Prod.fst) (i + 1) zs ns (decide (l.ty = 2)) := by
                          have h9 := HI.out
                          have hql := HQL.out
                          rw [← HJ.out] at h9 hql ⊢
                          have := pinv_next h9 hql hnk.1 HOK.out (by rw [HStep.out]; rw [decide_eq_true (by have := HK.out.1; omega), decide_eq_true HK.out.2]; rfl)
                          rw [hnm, HZs.out] at this
                          exact this
                        have hlen2 : 15 ≤ zs.length ∧ zs.length ≤ 15 + ((((x, pv) :: tl).take (i + 1)).map fun p => G p.1).sum := by
                          have h1 := HL.out
                          have h2 : ((x, pv) :: tl).take (i + 1) = ((x, pv) :: tl).take i ++ [(l, .slice da l.data.length dd)] := by
                            have h3 := HQ.out
                            rw [List.take_add_one, h3]
                            rfl
                          rw [h2, List.map_append, List.sum_append, ← HZs.out, List.length_append]
                          have h4 : (pieceB l ns).length ≤ G l := by have h5 := hG _ hmem HOK.out hnk.1 (by rw [hnm]; exact hne); rw [hnm] at h5; exact h5
                          simp only [List.map_cons, List.map_nil, List.sum_cons, List.sum_nil]
                          omega
                        have HB5 : bytesOk zs := by rw [← HZs.out]; exact bytesOk_app HB.out hpk.1
                        have HR5 := Lib.hid (And.intro hnext (And.intro O5 (And.intro S5 (And.intro f5 (And.intro HB5 hlen2)))))
                        clear hnext O5 S5 f5 HB5 hlen2 hpk hlast hsome hnm O4 fr4 fall q5 i5
                        go_roundg k
                        case measure => omega
                        case rel =>
                          obtain ⟨z1, z2, z3, z4, z5, z6⟩ := HR5.out
                          exact ⟨i + 1, zs, a5, d5, ns, A2, c2, decide (l.ty = 2), by omega, rfl, by rw [HM.out], by go_num, by rw [HM.out]; exact hc2, by rw [HM.out]; exact hm64, Lib.hid z1, Lib.hid z2, Lib.hid z3, Lib.hid z4, Lib.hid z5, Lib.hid z6⟩
      · have hPe : PP = ([], 190) := by rw [← HPP.out]; exact packX_head (fun e => ht2 e.2)
        subst hPe
        have d2 : (x.ty != 2) = true := by simp [ht2]
        clear hp47
        go_enter Tryd.func21, Tryd.ntmps21
        go_wp2_with fail
        exact ⟨rfl, _, results_tmp2 rfl _ _ _, _, rfl, OwnB.nil _ _, Fr.refl hw⟩
theorem pack_any (A : Option Addr) (c : Nat) (tv : List (Lf × Value)) (w : World) (hw : Ok w) (hT : LAt w A tv) (hc : tv.length ≤ c) (hn : tv.length ≤ 16777216) (hs : ∀ p ∈ tv, p.1.path.size ≤ 1048575) (hst : ∀ p ∈ tv, 0 ≤ p.1.stamp ∧ p.1.stamp ≤ 18446744073709551615)
    (hW : (tv.map fun p => 256 + 6 * p.1.data.length).sum ≤ 536870912) (hbd : ∀ p ∈ tv, bytesOk p.1.data) (hB0 : 0 < w.heap.size) :
    Calls Tryd.prog 21 #[.slice A tv.length c] w fun e w' => ∃ v, e = .returned (.tuple #[v, .int .i64 (packX (tv.map Prod.fst)).2]) ∧ OwnB w' w.heap.size v (packX (tv.map Prod.fst)).1 ∧ Fr w w' :=
  pack_anyG (fun l => 256 + 6 * l.data.length) A c tv w hw hT hc (by omega) hs hst (fun p hp h1 h2 h3 => by
    have h4 : namesP p.1.path.data.toList = some (nmL p.1) := by
      unfold nmL
      cases hq : namesP p.1.path.data.toList with
      | none => rw [hq] at h2; cases h2
      | some q => rfl
    have hg := namesP_good h4
    have hl : (nmL p.1).getLastD ⟨#[]⟩ ∈ nmL p.1 := by
      rw [List.getLastD_eq_getLast?, List.getLast?_eq_some_getLast h3]
      exact List.getLast_mem h3
    exact (piece_ok h1 (hbd p hp) hg.2.2.1 (nameB_all (hg.2.1 _ hl)).2.2.2.1).2) hW hbd hB0
end Go.Proofs.YtlnaeppbhjmocaaDoor
set_option linter.unusedSimpArgs false
set_option linter.unusedVariables false
namespace Go.Proofs.YtlnaeppbhjmocaaDoor
open Go.RowKit Go.Proofs

end Go.Proofs.YtlnaeppbhjmocaaDoor
set_option linter.unusedSimpArgs false
set_option linter.unusedVariables false
namespace Go.Proofs.YtlnaeppbhjmocaaDoor
open Go.RowKit Go.Proofs

def bodyX (x : Lf) (r : List Lf) : List Int := headX x ++ r.flatMap (fun y => pieceB y (nmL y)) ++ [255]
theorem packX_ok {t : List Lf} {L : List Int} (h : packX t = (L, 0)) : ∃ x r, t = x :: r ∧ x.path.data.toList = [47] ∧ x.ty = 2 ∧ okL x = true ∧ restB [] true r = true ∧ L = bodyX x r ++ le (crcI (bodyX x r)) 4 := by
  cases t with
  | nil => cases h
  | cons x r =>
    unfold packX at h
    dsimp only at h
    split at h
    · rename_i h1
      split at h
      · rename_i h2
        injection h with h3 h4
        exact ⟨x, r, rfl, h1.1, h1.2, h2.1, h2.2, h3.symm⟩
      · injection h with h3 h4; cases h4
    · injection h with h3 h4; cases h4
theorem packX_err {t : List Lf} (h : (packX t).2 ≠ 0) : (packX t).1 = [] := by
  cases t with
  | nil => rfl
  | cons x r =>
    unfold packX at h ⊢
    dsimp only at h ⊢
    split
    · split
      · rename_i h1 h2
        rw [if_pos h1, if_pos h2] at h
        exact absurd rfl h
      · rfl
    · rfl
end Go.Proofs.YtlnaeppbhjmocaaDoor
set_option linter.unusedSimpArgs false
set_option linter.unusedVariables false
namespace Go.Proofs.YtlnaeppbhjmocaaDoor
open Go.RowKit Go.Proofs

theorem OwnB.empty (w : World) (B : Nat) (hB : B ≤ w.heap.size) : OwnB (w.alloc (.cells #[] 5)) B (.slice (some ⟨w.heap.size, 0, none⟩) 0 0) [] := by
  refine ⟨rfl, .inr ⟨w.heap.size, 0, #[], rfl, hB, World.alloc_heap_new w _, Nat.le_refl _, by unfold maxLen; omega, rfl, rfl⟩⟩
end Go.Proofs.YtlnaeppbhjmocaaDoor
set_option linter.unusedSimpArgs false
set_option linter.unusedVariables false
namespace Go.Proofs.YtlnaeppbhjmocaaDoor
open Go.RowKit Go.Proofs Go.Proofs.YtlnaeppbhjmocaaDoorW.PrintWords Go.Proofs.YtlnaeppbhjmocaaDoorW.PrintMore

theorem TreeAt.fr {w w' : World} {B : Nat} {v : Value} {lfs : List Lf} (h : TreeAt w B v lfs) (q : Fr w w') : TreeAt w' B v lfs := by
  obtain ⟨a, tv, c, rfl, h1, h2, h3⟩ := h
  exact ⟨a, tv, c, rfl, h1, own_fr h2 q, h3.fr q⟩
end Go.Proofs.YtlnaeppbhjmocaaDoor
set_option linter.unusedSimpArgs false
set_option linter.unusedVariables false
namespace Go.Proofs.YtlnaeppbhjmocaaDoor
open Go.RowKit Go.Proofs

end Go.Proofs.YtlnaeppbhjmocaaDoor
set_option linter.unusedSimpArgs false
set_option linter.unusedVariables false
namespace Go.Proofs.YtlnaeppbhjmocaaDoor
open Go.RowKit Go.Proofs

end Go.Proofs.YtlnaeppbhjmocaaDoor
set_option linter.unusedSimpArgs false
set_option linter.unusedVariables false
namespace Go.Proofs.YtlnaeppbhjmocaaDoor
open Go.RowKit Go.Proofs

theorem restB_all : ∀ (r : List Lf) (ahead : List ByteArray) (dir : Bool), restB ahead dir r = true → ∀ l ∈ r, okL l = true ∧ namesP l.path.data.toList = some (nmL l) ∧ nmL l ≠ [] := by
  intro r
  induction r with
  | nil => intro _ _ _ l hl; cases hl
  | cons x r ih =>
    intro ahead dir h l hl
    rw [restB, Bool.and_eq_true, Bool.and_eq_true, Bool.and_eq_true] at h
    obtain ⟨⟨⟨h1, h2⟩, h3⟩, h4⟩ := h
    rcases List.mem_cons.1 hl with e | e
    · subst e
      refine ⟨h2, ?_, ?_⟩
      · unfold nmL
        cases hq : namesP l.path.data.toList with
        | none => rw [hq] at h1; cases h1
        | some ns => rfl
      · simp only [stepX, Bool.and_eq_true] at h3
        exact behind_ne ltB h3.1.1
    · exact ih _ _ h4 l e
theorem last_63 {l : Lf} {ns : List ByteArray} (h : namesP l.path.data.toList = some ns) (hne : ns ≠ []) : (ns.getLastD ⟨#[]⟩).size ≤ 63 := by
  have hg := (namesP_good h).2.1
  have hl : ns.getLastD ⟨#[]⟩ ∈ ns := by
    rw [List.getLastD_eq_getLast?, List.getLast?_eq_some_getLast hne]
    exact List.getLast_mem hne
  exact (nameB_all (hg _ hl)).2.2.2.1
theorem pieces_ok : ∀ (r : List Lf), (∀ l ∈ r, okL l = true ∧ namesP l.path.data.toList = some (nmL l) ∧ nmL l ≠ []) → (∀ l ∈ r, bytesOk l.data) →
    bytesOk (r.flatMap fun y => pieceB y (nmL y)) ∧ (r.flatMap fun y => pieceB y (nmL y)).length ≤ (r.map fun l => 256 + 6 * l.data.length).sum := by
  intro r
  induction r with
  | nil => intro _ _; exact ⟨fun x hx => (by cases hx), by simp⟩
  | cons l r ih =>
    intro h hd
    obtain ⟨h1, h2, h3⟩ := h l List.mem_cons_self
    have hp := piece_ok h1 (hd l List.mem_cons_self) (namesP_good h2).2.2.1 (last_63 h2 h3)
    obtain ⟨i1, i2⟩ := ih (fun x hx => h x (List.mem_cons_of_mem _ hx)) (fun x hx => hd x (List.mem_cons_of_mem _ hx))
    rw [List.flatMap_cons, List.map_cons, List.sum_cons, List.length_append]
    exact ⟨bytesOk_app hp.1 i1, by have := hp.2; omega⟩
theorem packX_bytes {t : List Lf} {L : List Int} (h : packX t = (L, 0)) (hd : ∀ l ∈ t, bytesOk l.data) : bytesOk L ∧ L.length ≤ 20 + (t.map fun l => 256 + 6 * l.data.length).sum ∧ 20 ≤ L.length := by
  obtain ⟨x, r, rfl, h1, h2, h3, h4, rfl⟩ := packX_ok h
  obtain ⟨p1, p2⟩ := pieces_ok r (restB_all r _ _ h4) (fun l hl => hd l (List.mem_cons_of_mem _ hl))
  have hb : bytesOk (headX x) := by
    unfold headX
    refine bytesOk_app (bytesOk_app (fun z hz => ?_) (le_mem _ _)) (le_mem _ _)
    simp at hz
    omega
  have hl : (headX x).length = 15 := by
    unfold headX
    simp only [List.length_append, le_length, List.length_cons, List.length_nil]
  unfold bodyX
  refine ⟨bytesOk_app (bytesOk_app (bytesOk_app hb p1) (bytesOk_one (by decide))) (le_mem _ _), ?_, ?_⟩
  · simp only [List.length_append, le_length, List.length_cons, List.length_nil, hl, List.map_cons, List.sum_cons]
    omega
  · simp only [List.length_append, le_length, List.length_cons, List.length_nil, hl]
    omega
/-- a tree argument that is not beyond the bounds -/
structure TIn (w : World) (A : Option Addr) (c : Nat) (tv : List (Lf × Value)) : Prop where
  at_ : LAt w A tv
  cap : tv.length ≤ c
  len : tv.length ≤ 1048576
  path : ∀ p ∈ tv, p.1.path.size ≤ 1048575
  stamp : ∀ p ∈ tv, 0 ≤ p.1.stamp ∧ p.1.stamp ≤ 18446744073709551615
  sum : (tv.map fun p => 256 + 6 * p.1.data.length).sum ≤ 536870912
  bytes : ∀ p ∈ tv, bytesOk p.1.data
theorem BytesAt.take {w : World} {A : Option Addr} {L : List Int} (h : BytesAt w A L) (k : Nat) : BytesAt w A (L.take k) := by
  rcases h with h | ⟨g, o, hA, hg, h⟩
  · exact .inl (by rw [h]; simp)
  · refine .inr ⟨g, o, hA, hg, fun i x hx => h i x ?_⟩
    rw [List.getElem?_take] at hx
    split at hx
    · exact hx
    · cases hx
theorem own_nz {w : World} {B n c : Nat} {a : Option Addr} {xs : List Int} (h : OwnB w B (.slice a n c) xs) : a = none → c = 0 := fun e => by
  subst e
  rcases h.2 with ⟨hv, _⟩ | ⟨g, cap, cur, hv, _⟩
  · injection hv
  · cases hv
end Go.Proofs.YtlnaeppbhjmocaaDoor
set_option linter.unusedSimpArgs false
set_option linter.unusedVariables false
namespace Go.Proofs.YtlnaeppbhjmocaaDoor
open Go.ChangeShapes Go.WideShapes Go.ChangeAt Go.RowKit

instance : Inhabited (Lf × Value) := ⟨(default, .bool false)⟩
section
variable {H : Type} {enc : TypeId × Value → H} {w : World} {base : Nat} {sp : Nat → Bool} {held : Bool}

theorem bulk_sum {α : Type} (F : Nat → α) (g : α → Nat) (D : Nat → DataW H) : ∀ n, (∀ i, i < n → g (F i) ≤ Rows.uptoBulk (D i)) → (((List.range n).map F).map g).sum ≤ Rows.uptoBulkAll ((List.range n).map D) := by
  have happ : ∀ a b : List (DataW H), Rows.uptoBulkAll (a ++ b) = Rows.uptoBulkAll a + Rows.uptoBulkAll b := by
    intro a b
    induction a with
    | nil => simp [Rows.uptoBulkAll]
    | cons x r ih => simp only [List.cons_append, Rows.uptoBulkAll, ih]; omega
  intro n
  induction n with
  | zero => intro _; simp
  | succ n ih =>
    intro h
    have h1 := ih (fun i hi => h i (by omega))
    have h2 := h n (by omega)
    rw [List.range_succ, List.map_append, List.map_append, List.map_append, List.sum_append, happ]
    simp only [List.map_cons, List.map_nil, List.sum_cons, List.sum_nil, Rows.uptoBulkAll]
    omega
/-- a slice of structs of k cells, with the sum of a measure -/
theorem open_rows2 {α : Type} [Inhabited α] {Ts e : TypeId} {k : Nat} (f : α → List Value) (hf : ∀ a, (f a).length = k) (hk : 0 < k) (ht : Tryd.prog.underlying Ts = some (.slice e)) (hc : Tryd.prog.cellsOf e = k) (Q : α → DataW H → Prop) (g : α → Nat) (hg : ∀ a d, Q a d → g a ≤ Rows.uptoBulk d)
    (hopen : ∀ {fuel : Nat} {cs : List Value} {x : DataW H × List MemPlace}, DataW.trod enc Tryd.prog w base sp held fuel e cs = some x → ∃ a, Q a x.1 ∧ cs = f a)
    {fuel : Nat} {cs : List Value} {x : DataW H × List MemPlace} (h : DataW.trod enc Tryd.prog w base sp held fuel Ts cs = some x) :
    ∃ (l : List α) (A : Option Addr) (c : Nat), cs = [.slice A l.length c] ∧ Row w A k (l.map f) ∧ l.length ≤ c ∧ (A = none → c = 0) ∧ l.length ≤ Rows.uptoBulk x.1 ∧ (l.map g).sum ≤ Rows.uptoBulk x.1 ∧ ∀ a ∈ l, ∃ d, Q a d ∧ Rows.uptoBulk d ≤ Rows.uptoBulk x.1 := by
  rcases Deep.open_slice ht h with ⟨rfl, rfl⟩ | ⟨ad, len, cap, m, n, D, Pl, rfl, hb, hl, hm, hmm, rfl, hx⟩
  · exact ⟨[], none, 0, rfl, .inl rfl, Nat.le_refl _, fun _ => rfl, by simp, by simp, fun a ha => by cases ha⟩
  rw [hc] at hx
  have hle : len ≤ m := by rw [hmm]; split <;> omega
  have key : ∀ i, i < len → ∃ a : α, Q a (D i) ∧ w.cells? base (ad.add (i * k)) k = some (f a) := fun i hi => by
    obtain ⟨cs', h1, h2⟩ := hx i (by omega)
    obtain ⟨a, ha, rfl⟩ := hopen h2
    exact ⟨a, ha, h1⟩
  clear hx
  obtain ⟨F, hF⟩ := Deep.choose_lt (α := α) (p := fun i a => Q a (D i) ∧ w.cells? base (ad.add (i * k)) k = some (f a)) key
  have hbulk : Rows.uptoBulkAll ((List.range len).map D) ≤ Rows.uptoBulk (DataW.slice ((List.range len).map D) ((List.range (m - len)).map fun j => D (len + j))) := by
    simp only [Rows.uptoBulk]; omega
  refine ⟨(List.range len).map F, some ad, cap, by simp, ?_, by simpa using hl, (fun e => by cases e), ?_, Nat.le_trans (bulk_sum F g D len (fun i hi => hg _ _ (hF i hi).1)) hbulk, ?_⟩
  · cases len with
    | zero => exact .inl rfl
    | succ len =>
      right
      have cellsF : ∀ i, i < len + 1 → ∀ j, j < k → w.cell? (ad.add (i * k + j)) = (f (F i))[j]? := fun i hi j hj => by
        have := (World.cells?_some (hF i hi).2).2.2 j hj
        rwa [Deep.add_add] at this
      obtain ⟨b, o, spot⟩ := ad
      have h0 := cellsF 0 (by omega) 0 hk
      obtain ⟨v0, hv0⟩ : ∃ v, (f (F 0))[0]? = some v := ⟨_, List.getElem?_eq_getElem (by rw [hf]; exact hk)⟩
      rw [hv0] at h0
      have hspot : spot = none := by simpa [Addr.add] using World.cell?_spot h0
      subst hspot
      refine ⟨b, o, rfl, by simpa [Addr.add] using World.block_lt_of_cell? w _ h0, fun i c hi j v hj hv => ?_⟩
      have hi' : i < len + 1 := by have := (List.getElem?_eq_some_iff.1 hi).1; simpa using this
      have hce : c = f (F i) := by
        simp only [List.getElem?_map, List.getElem?_range hi', Option.map_some, Option.some.injEq] at hi
        exact hi.symm
      subst hce
      have := cellsF i hi' j hj
      rw [Lib.add_plain, hv] at this
      rw [Nat.add_assoc]; exact this
  · have := bulk_len ((List.range len).map D)
    simp only [List.length_map, List.length_range] at this ⊢
    omega
  · intro a ha
    obtain ⟨i, hi, rfl⟩ := List.mem_map.1 ha
    have hi' : i < len := by simpa using hi
    refine ⟨D i, (hF i hi').1, ?_⟩
    exact Nat.le_trans (bulk_get (es := (List.range len).map D) (i := i) (e := D i) (by simp [hi'])) hbulk
def LfOk (w : World) (p : Lf × Value) (d : DataW H) : Prop :=
  p.1.path.size + 1 ≤ Rows.uptoBulk d ∧ (0 ≤ p.1.stamp ∧ p.1.stamp ≤ 18446744073709551615) ∧ (∃ a c, p.2 = .slice a p.1.data.length c ∧ BytesAt w a p.1.data ∧ p.1.data.length ≤ c ∧ (a = none → c = 0)) ∧ bytesOk p.1.data ∧ p.1.data.length ≤ Rows.uptoBulk d
set_option maxRecDepth 100000 in
theorem open_leaf {fuel : Nat} {cs : List Value} {x : DataW H × List MemPlace} (h : DataW.trod enc Tryd.prog w base sp held fuel 45 cs = some x) : ∃ p : Lf × Value, LfOk w p x.1 ∧ cs = lcell p := by
  have hc1 : Tryd.prog.cellsOf 3 = 1 := by kernel_rfl
  have hcu : Tryd.prog.cellsOf 43 = 1 := by kernel_rfl
  have hcs : Tryd.prog.cellsOf 9 = 1 := by kernel_rfl
  have hcB : Tryd.prog.cellsOf 22 = 1 := by kernel_rfl
  have hc6 : Tryd.prog.cellsOf 45 = 6 := by kernel_rfl
  obtain ⟨xs, n, rfl, rfl, hl, hx, hf⟩ := DataW.trod_struct Tryd.underlying45 h
  rw [hc6] at hl
  match xs, hx, cs, hl with
  | [x0, x1, x2, x3, x4, x5], _, [c0, c1, c2, c3, c4, c5], _ =>
    have h0 := hf 0 _ rfl
    have h1 := hf 1 _ rfl
    have h2 := hf 2 _ rfl
    have h3 := hf 3 _ rfl
    have h4 := hf 4 _ rfl
    have h5 := hf 5 _ rfl
    simp [hc1, hcu, hcs, hcB] at h0 h1 h2 h3 h4 h5
    obtain ⟨pa, e0, rfl, _⟩ := DataW.trod_string Tryd.underlying9 h0
    obtain ⟨ty, e1, rfl, w1⟩ := DataW.trod_int Tryd.underlying3 h1
    obtain ⟨mo, e2, rfl, w2⟩ := DataW.trod_int Tryd.underlying3 h2
    obtain ⟨st, e3, rfl, w3⟩ := DataW.trod_int Tryd.underlying43 h3
    obtain ⟨L, A, c, e4, hB, hb, hlc, hA, hlen⟩ := open_u8s h4
    obtain ⟨tg, e5, rfl, _⟩ := DataW.trod_string Tryd.underlying9 h5
    simp at e0 e1 e2 e3 e4 e5
    subst e0 e1 e2 e3 e4 e5
    have hst : 0 ≤ st ∧ st ≤ 18446744073709551615 := by
      have := w3
      simp [Lit.wf, IntKind.min, IntKind.max, IntKind.signed, IntKind.bits] at this
      omega
    refine ⟨(⟨pa, ty, mo, st, L, tg⟩, .slice A L.length c), ⟨?_, hst, ⟨A, c, rfl, hB, hlc, hA⟩, hb, ?_⟩, rfl⟩
    · have := bulk_pos x4.1
      simp only [List.map_cons, Rows.uptoBulk, Rows.uptoBulkAll, Array.length_toList, ByteArray.size]; omega
    · simp only [List.map_cons, Rows.uptoBulk, Rows.uptoBulkAll]; omega
/-- a tree as an argument -/
theorem open_tree {fuel : Nat} {cs : List Value} {x : DataW H × List MemPlace} (h : DataW.trod enc Tryd.prog w base sp held fuel 26 cs = some x) (hb : Rows.uptoBulk x.1 ≤ 1048576) :
    ∃ (tv : List (Lf × Value)) (A : Option Addr) (c : Nat), cs = [.slice A tv.length c] ∧ TIn w A c tv ∧ (A = none → c = 0) := by
  have hc6 : Tryd.prog.cellsOf 45 = 6 := by kernel_rfl
  obtain ⟨tv, A, c, h1, hR, hlc, hA, hlen, hsum, hall⟩ := open_rows2 lcell (fun _ => rfl) (by decide) Tryd.underlying26 hc6 (fun p d => LfOk w p d) (fun p => p.1.data.length) (fun p d q => q.2.2.2.2) (fun h => open_leaf h) h
  refine ⟨tv, A, c, h1, ⟨⟨hR, fun p hp => ?_⟩, hlc, by omega, fun p hp => ?_, fun p hp => ?_, ?_, fun p hp => ?_⟩, hA⟩
  · obtain ⟨d, q, _⟩ := hall p hp
    exact q.2.2.1
  · obtain ⟨d, q, hd⟩ := hall p hp
    have := q.1
    omega
  · obtain ⟨d, q, hd⟩ := hall p hp
    exact q.2.1
  · have hs : ∀ l : List (Lf × Value), (l.map fun p => 256 + 6 * p.1.data.length).sum = 256 * l.length + 6 * (l.map fun p => p.1.data.length).sum := by
      intro l
      induction l with
      | nil => rfl
      | cons y r ih => simp only [List.map_cons, List.sum_cons, List.length_cons, ih]; omega
    rw [hs]
    omega
  · obtain ⟨d, q, hd⟩ := hall p hp
    exact q.2.2.2.1
end
end Go.Proofs.YtlnaeppbhjmocaaDoor
set_option linter.unusedSimpArgs false
set_option linter.unusedVariables false
namespace Go.Proofs.YtlnaeppbhjmocaaDoor
open Go.RowKit Go.Proofs Go.Proofs.YtlnaeppbhjmocaaDoorW.PrintWords Go.Proofs.YtlnaeppbhjmocaaDoorW.PrintMore

/-! ### put, Head, cut -/
theorem eput_l0 (n : Nat) (hn : n ≤ 8) : ∀ (d k i : Nat) (x : Int) (out : List Int), i + d = n → d < k → 0 ≤ x → x ≤ 18446744073709551615 → out.length = i → PPack.shaleref18_put.l0 k x n out (i : Int) = some (out ++ le x d) := by
  intro d
  induction d with
  | zero =>
    intro k i x out hi hk h0 h1 ho
    obtain ⟨k, rfl⟩ : ∃ m, k = m + 1 := ⟨k - 1, by omega⟩
    simp only [PPack.shaleref18_put.l0]
    rw [if_neg (by omega)]; simp [le]
  | succ d ih =>
    intro k i x out hi hk h0 h1 ho
    obtain ⟨k, rfl⟩ : ∃ m, k = m + 1 := ⟨k - 1, by omega⟩
    have e1 : IntKind.u64.wrap (Int.tdiv x 256) = x / 256 := by rw [Int.tdiv_eq_ediv_of_nonneg h0]; exact u64_in ⟨by omega, by omega⟩
    have e3 : wrap64 ((i : Int) + 1) = ((i + 1 : Nat) : Int) := by rw [wr64 ⟨by omega, by omega⟩]; omega
    simp only [PPack.shaleref18_put.l0]
    rw [if_pos (by omega), if_pos (by omega), e1, e3, ih k (i + 1) (x / 256) (out ++ [x % 256]) (by omega) (by omega) (by omega) (by omega) (by simp [ho])]
    simp [le]
theorem eput (x : Int) (h0 : 0 ≤ x) (h1 : x ≤ 18446744073709551615) (n : Nat) (hn : n ≤ 8) (k : Nat) (hk : 9 ≤ k) : PPack.shaleref18_put.f k x n = some (le x n) := by
  have := eput_l0 n hn n k 0 x [] (by omega) (by omega) h0 h1 rfl
  simpa [PPack.shaleref18_put.f] using this
theorem ehead (l : Lf) (hm : 0 ≤ l.mode ∧ l.mode ≤ 4095) (hs : 0 ≤ l.stamp ∧ l.stamp ≤ 18446744073709551615) (k : Nat) (hk : 9 ≤ k) : PPack.shaleref18_Head.f k l.mode l.stamp = some (headX l) := by
  unfold PPack.shaleref18_Head.f headX
  simp only [Option.bind_some]
  have e1 : PPack.shaleref18_put.f k l.mode 2 = some (le l.mode 2) := eput l.mode hm.1 (by omega) 2 (by decide) k hk
  have e2 : PPack.shaleref18_put.f k l.stamp 8 = some (le l.stamp 8) := eput l.stamp hs.1 hs.2 8 (by decide) k hk
  rw [u64_in ⟨hm.1, by omega⟩, e1]
  simp only [Option.bind_some]
  rw [if_pos (by rw [le_length]; decide), e2]
  simp only [Option.bind_some]
  rw [if_pos (by rw [List.length_append, le_length, le_length]; decide)]
theorem ezeros_l0 (b : List Int) (hL : b.length ≤ 1073741824) : ∀ (d k i x : Nat), i + x + d = b.length → d < k → PPack.shaleref18_zeros.l0 k b (i : Int) (x : Int) = some (((x + lead0 (b.drop (i + x)) : Nat)) : Int) := by
  intro d
  induction d with
  | zero =>
    intro k i x h hk
    obtain ⟨k, rfl⟩ : ∃ m, k = m + 1 := ⟨k - 1, by omega⟩
    simp only [PPack.shaleref18_zeros.l0]
    rw [wr64 ⟨by omega, by omega⟩, if_neg (by omega), List.drop_eq_nil_of_le (by omega)]
    rfl
  | succ d ih =>
    intro k i x h hk
    obtain ⟨k, rfl⟩ : ∃ m, k = m + 1 := ⟨k - 1, by omega⟩
    simp only [PPack.shaleref18_zeros.l0]
    have e1 : wrap64 ((i : Int) + (x : Int)) = ((i + x : Nat) : Int) := by rw [wr64 ⟨by omega, by omega⟩]; omega
    have e2 : wrap64 ((x : Int) + 1) = ((x + 1 : Nat) : Int) := by rw [wr64 ⟨by omega, by omega⟩]; omega
    rw [e1, if_pos (by omega), if_pos (by omega), rd_nat, e2, drop_getD (show i + x < b.length by omega)]
    by_cases hz : b.getD (i + x) 0 = 0
    · rw [if_pos hz, ih k i (x + 1) (by omega) (by omega)]
      simp only [lead0]
      rw [if_pos hz, show i + (x + 1) = i + x + 1 by omega]
      congr 1; omega
    · rw [if_neg hz]
      simp only [lead0]
      rw [if_neg hz]; rfl
theorem ezeros (b : List Int) (hL : b.length ≤ 1073741824) (k i : Nat) (hi : i ≤ b.length) (hk : b.length - i < k) : PPack.shaleref18_zeros.f k b (i : Int) = some ((lead0 (b.drop i) : Nat) : Int) := by
  have := ezeros_l0 b hL (b.length - i) k i 0 (by omega) hk
  unfold PPack.shaleref18_zeros.f
  simpa using this
theorem estretch_l0 (L : List Int) (hL : L.length ≤ 1073741824) : ∀ (d k i : Nat), i + d = L.length → 2 * d + 2 ≤ k → PPack.shaleref18_stretch.l0 k L (i : Int) = some (((scanS L d i : Nat) : Int), false) := by
  intro d
  induction d using Nat.strongRecOn with
  | _ d ih =>
  intro k i hd hk
  obtain ⟨k, rfl⟩ : ∃ m, k = m + 1 := ⟨k - 1, by omega⟩
  rw [PPack.shaleref18_stretch.l0]
  by_cases hi : i < L.length
  · have hl := lead0_le (L.drop i)
    rw [List.length_drop] at hl
    rw [if_pos (by omega), ezeros L hL k i (by omega) (by omega), Option.bind_some]
    obtain ⟨d, rfl⟩ : ∃ m, d = m + 1 := ⟨d - 1, by omega⟩
    rw [scanS, if_pos hi]
    by_cases h16 : 16 ≤ lead0 (L.drop i)
    · rw [if_pos (by omega), if_pos h16]
    · rw [if_neg (by omega), if_neg h16]
      by_cases h0 : lead0 (L.drop i) = 0
      · have e1 : wrap64 (wrap64 ((i : Int) + ((lead0 (L.drop i) : Nat) : Int)) + 1) = ((i + 1 : Nat) : Int) := by
          have q1 : wrap64 (i : Int) = (i : Int) := wr64 ⟨by omega, by omega⟩
          rw [h0, show (i : Int) + ((0 : Nat) : Int) = (i : Int) by omega, q1, wr64 ⟨by omega, by omega⟩]; omega
        rw [if_pos (by omega), if_pos h0, e1, ih d (by omega) k (i + 1) (by omega) (by omega)]
      · have e1 : wrap64 ((i : Int) + ((lead0 (L.drop i) : Nat) : Int)) = ((i + lead0 (L.drop i) : Nat) : Int) := by rw [wr64 ⟨by omega, by omega⟩]; omega
        rw [if_neg (by omega), if_neg h0, e1, ih (d + 1 - lead0 (L.drop i)) (by omega) k (i + lead0 (L.drop i)) (by omega) (by omega), scanS_more L (d + 1 - lead0 (L.drop i)) d _ (by omega) (by omega)]
  · rw [if_neg (by omega)]
    obtain rfl : d = 0 := by omega
    rfl
theorem estretch (L : List Int) (hL : L.length ≤ 1073741824) (k i : Nat) (hi : i ≤ L.length) (hk : 2 * L.length + 3 ≤ k) : PPack.shaleref18_stretch.f k L (i : Int) = some (((stretchS L i).1 : Int), (stretchS L i).2) := by
  have hl := lead0_le (L.drop i)
  rw [List.length_drop] at hl
  unfold PPack.shaleref18_stretch.f stretchS
  rw [ezeros L hL k i hi (by omega), Option.bind_some]
  by_cases h16 : 16 ≤ lead0 (L.drop i)
  · rw [if_pos (by omega), if_pos h16, wr64 ⟨by omega, by omega⟩]
    congr 2
  · rw [if_neg (by omega), if_neg h16, estretch_l0 L hL (L.length - i) k i (by omega) (by omega)]
theorem ecut_l0 (L : List Int) (hL : L.length ≤ 1073741824) : ∀ (d k i : Nat) (out : List Int), i + d = L.length → d + 2 * L.length + 12 ≤ k → out.length + 6 * d ≤ 140737488355320 → PPack.shaleref18_cut.l0 k L out (i : Int) = some (out ++ cutS L d i) := by
  intro d
  induction d using Nat.strongRecOn with
  | _ d ih =>
  intro k i out hd hk ho
  obtain ⟨k, rfl⟩ : ∃ m, k = m + 1 := ⟨k - 1, by omega⟩
  rw [PPack.shaleref18_cut.l0]
  by_cases hi : i < L.length
  · have hl := lead0_le (L.drop i)
    rw [List.length_drop] at hl
    obtain ⟨d, rfl⟩ : ∃ m, d = m + 1 := ⟨d - 1, by omega⟩
    rw [if_pos (by omega), estretch L hL k i (by omega) (by omega), Option.bind_some]
    by_cases h16 : 16 ≤ lead0 (L.drop i)
    · have hs : stretchS L i = (i + lead0 (L.drop i), true) := by unfold stretchS; rw [if_pos h16]
      rw [hs, if_pos rfl, if_pos (by omega), Option.bind_some]
      have e1 : IntKind.u64.wrap (wrap64 (((i + lead0 (L.drop i) : Nat) : Int) - (i : Int))) = ((lead0 (L.drop i) : Nat) : Int) := by rw [wr64 ⟨by omega, by omega⟩, u64_in ⟨by omega, by omega⟩]; omega
      have e2 : PPack.shaleref18_put.f k ((lead0 (L.drop i) : Nat) : Int) 4 = some (le ((lead0 (L.drop i) : Nat) : Int) 4) := eput _ (by omega) (by omega) 4 (by decide) k (by omega)
      dsimp only
      rw [e1, e2, Option.bind_some, if_pos (by rw [List.length_append, le_length]; simp; omega), ih (d + 1 - lead0 (L.drop i)) (by omega) k (i + lead0 (L.drop i)) _ (by omega) (by omega) (by rw [List.length_append, List.length_append, le_length]; simp; omega)]
      rw [cutS_hole L d i hi h16]
      have e3 : cutS L (d + 1 - lead0 (L.drop i)) (i + lead0 (L.drop i)) = cutS L d (i + lead0 (L.drop i)) := by
        rw [cutS_eq L (d + 1 - lead0 (L.drop i)) _ L.length _ (by omega) (by omega) (by omega), cutS_eq L (d + 1 - lead0 (L.drop i)) d L.length _ (by omega) (by omega) (by omega)]
      rw [e3]
      simp
    · have hgt := nhL_gt L i hi (by omega)
      have hb := nhL_bounds (L.drop i) 0 i (by omega)
      rw [List.length_drop] at hb
      obtain ⟨p, hp⟩ : ∃ p, (nhL (L.drop i) 0 i).1 = p := ⟨_, rfl⟩
      rw [stretchS_no L i (by omega) (by omega), if_neg (by simp), if_pos (by omega), Option.bind_some]
      dsimp only
      rw [hp] at hgt hb ⊢
      have e1 : IntKind.u64.wrap (wrap64 ((p : Int) - (i : Int))) = ((p - i : Nat) : Int) := by rw [wr64 ⟨by omega, by omega⟩, u64_in ⟨by omega, by omega⟩]; omega
      have e2 : PPack.shaleref18_put.f k ((p - i : Nat) : Int) 4 = some (le ((p - i : Nat) : Int) 4) := eput _ (by omega) (by omega) 4 (by decide) k (by omega)
      rw [e1, e2, Option.bind_some, if_pos (by rw [List.length_append, le_length]; simp; omega), Option.bind_some, if_pos (by omega), if_pos (by omega), if_pos (by omega)]
      rw [Int.toNat_natCast, Int.toNat_natCast]
      have hlen : ((L.take p).drop i).length = p - i := by rw [List.length_drop, List.length_take]; omega
      have hdt : (L.take p).drop i = (L.drop i).take (p - i) := by rw [List.drop_take]
      rw [if_pos (by rw [hlen, List.length_append, List.length_append, le_length]; simp; omega), ih (L.length - p) (by omega) k p _ (by omega) (by omega) (by rw [List.length_append, hlen, List.length_append, List.length_append, le_length]; simp; omega)]
      rw [cutS_full L d i hi (by omega), hp]
      have e3 : cutS L (L.length - p) p = cutS L d p := by
        rw [cutS_eq L (L.length - p) _ L.length _ (by omega) (by omega) (by omega), cutS_eq L (L.length - p) d L.length _ (by omega) (by omega) (by omega)]
      rw [e3, hdt]
      simp
  · rw [if_neg (by omega), cutS_end L d i (by omega)]; simp
theorem ecut (L : List Int) (hL : L.length ≤ 1073741824) (k : Nat) (hk : 3 * L.length + 12 ≤ k) : PPack.shaleref18_cut.f k L = some (cutB L) := by
  unfold PPack.shaleref18_cut.f cutB stretX
  have e2 : PPack.shaleref18_put.f k (L.length : Int) 4 = some (le (L.length : Int) 4) := eput _ (by omega) (by omega) 4 (by decide) k (by omega)
  rw [u64_in ⟨by omega, by omega⟩, e2, Option.bind_some]
  have := ecut_l0 L hL L.length k 0 (le (L.length : Int) 4) (by omega) (by omega) (by rw [le_length]; omega)
  rw [cutS_eq L L.length L.length L.length 0 (by omega) (Nat.le_refl _) (Nat.le_refl _)] at this
  exact this

/-! ### Leaf, Behind, dirOf, Tree -/
theorem etarget_l0 (s : ByteArray) (hs : s.size ≤ 1048575) : ∀ (d k i : Nat), i + d = s.size → d < k → PPack.shaleref18_target.l0 k s (i : Int) = some ((s.data.toList.drop i).all fun c => c != 0) := by
  intro d
  induction d with
  | zero =>
    intro k i h hk
    obtain ⟨k, rfl⟩ : ∃ m, k = m + 1 := ⟨k - 1, by omega⟩
    rw [PPack.shaleref18_target.l0, if_neg (by omega), List.drop_eq_nil_of_le (by rw [show s.data.toList.length = s.size from rfl]; omega)]
    rfl
  | succ d ih =>
    intro k i h hk
    obtain ⟨k, rfl⟩ : ∃ m, k = m + 1 := ⟨k - 1, by omega⟩
    obtain ⟨c, hd, hb, he⟩ := bt_lt (s := s) (i := i) (by omega)
    have w1 : wrap64 ((i : Int) + 1) = ((i + 1 : Nat) : Int) := by rw [wr64 ⟨by omega, by omega⟩]; omega
    have hc : ∀ n : UInt8, (c.toNat : Int) = (n.toNat : Int) → c = n := fun n h => UInt8.toNat_inj.mp (by omega)
    rw [PPack.shaleref18_target.l0, if_pos (by omega), if_pos (by omega), hb, hd]
    by_cases h1 : c = 0
    · subst h1; rw [if_pos (show (((0 : UInt8).toNat : Nat) : Int) = 0 from rfl)]; simp
    · rw [if_neg (show ¬ ((c.toNat : Int) = 0) from fun h => h1 (hc 0 h)), w1, ih k (i + 1) (by omega) (by omega)]
      simp [h1]
theorem etarget (ty : Int) (s : ByteArray) (k : Nat) (hk : 130 ≤ k) : PPack.shaleref18_target.f k ty s = some (if ty = 3 then targetB s else decide (s.data.toList = [])) := by
  obtain ⟨k, rfl⟩ : ∃ m, k = m + 1 := ⟨k - 1, by omega⟩
  unfold PPack.shaleref18_target.f
  by_cases h3 : ty = 3
  · rw [if_pos h3, if_pos h3]
    by_cases h1 : (s.size : Int) < 1
    · rw [if_pos h1, PPack.shaleref18_target.j0, if_pos rfl]
      unfold targetB
      rw [decide_eq_false (by omega)]
      rfl
    · rw [if_neg h1, PPack.shaleref18_target.j0]
      by_cases h2 : (s.size : Int) > 127
      · rw [if_pos (by simpa using h2)]
        unfold targetB
        rw [decide_eq_false (by omega)]
        rfl
      · rw [if_neg (by simpa using h2)]
        have := etarget_l0 s (by omega) s.size k 0 (by omega) (by omega)
        rw [List.drop_zero] at this
        have this : PPack.shaleref18_target.l0 k s 0 = _ := this
        rw [this]
        unfold targetB
        rw [decide_eq_true (by omega)]
        rfl
  · rw [if_neg h3, if_neg h3, toL]
    congr 1
    cases s.data.toList <;> simp
def nmS (x : PPack.S45) : List ByteArray := (namesP x.f0.data.toList).getD []
def okS (x : PPack.S45) : Bool := (namesP x.f0.data.toList).isSome && goodB x.f1 x.f2 x.f4.length x.f5
theorem enm (x : PPack.S45) (hs : x.f0.size ≤ 1048575) (k : Nat) (hk : 2 * 1048576 + 9 ≤ k) : PPack.shaleref18_names.f k x.f0 = some (nmS x, (namesP x.f0.data.toList).isSome) := by
  rw [enames_any x.f0 hs k hk]
  unfold nmS
  cases namesP x.f0.data.toList <;> rfl
theorem eleaf (x : PPack.S45) (hs : x.f0.size ≤ 1048575) (k : Nat) (hk : 2 * 1048576 + 9 ≤ k) : PPack.shaleref18_Leaf.f k x.f0 x.f1 x.f2 x.f3 x.f4 x.f5 = some (okS x) := by
  unfold PPack.shaleref18_Leaf.f okS goodB
  rw [enm x hs k hk, Option.bind_some]
  dsimp only
  cases (namesP x.f0.data.toList).isSome with
  | false => rfl
  | true =>
    rw [if_pos rfl, Bool.true_and]
    by_cases h1 : x.f1 ≥ 1
    · rw [if_pos h1]
      by_cases h2 : x.f1 ≤ 3
      · rw [if_pos h2]
        by_cases h3 : x.f2 ≥ 0
        · rw [if_pos h3]
          by_cases h4 : x.f2 ≤ 4095
          · rw [if_pos h4]
            have e3 : decide (x.f2 < 0) = false := decide_eq_false (by omega)
            have e4 : decide (4095 < x.f2) = false := decide_eq_false (by omega)
            rw [e3, e4]
            by_cases h5 : x.f1 = 1
            · rw [if_pos h5]
              by_cases h6 : (x.f4.length : Int) ≤ 16777216
              · have e6 : decide (16777216 < x.f4.length) = false := decide_eq_false (by omega)
                rw [if_pos h6, etarget x.f1 x.f5 k (by omega), Option.bind_some, e6, if_neg (by omega), if_pos (.inl h5)]
                simp [h5]
              · have e6 : decide (16777216 < x.f4.length) = true := decide_eq_true (by omega)
                rw [if_neg h6, e6]
                simp
            · rw [if_neg h5]
              have e5 : decide (x.f1 = 1) = false := decide_eq_false h5
              by_cases h7 : (x.f4.length : Int) = 0
              · have e6 : decide (16777216 < x.f4.length) = false := decide_eq_false (by omega)
                have e7 : decide (0 < x.f4.length) = false := decide_eq_false (by omega)
                rw [if_pos h7, if_pos (by omega), etarget x.f1 x.f5 k (by omega), Option.bind_some, e6, e7, e5]
                by_cases h8 : x.f1 = 3
                · rw [if_pos h8, if_neg (by omega), if_pos h8]; rfl
                · rw [if_neg h8, if_pos (by omega)]; rfl
              · have e7 : decide (0 < x.f4.length) = true := decide_eq_true (by omega)
                rw [if_neg h7, e7, e5]
                simp
          · have e4 : decide (4095 < x.f2) = true := decide_eq_true (by omega)
            rw [if_neg h4, e4]; simp
        · have e3 : decide (x.f2 < 0) = true := decide_eq_true (by omega)
          rw [if_neg h3, e3]; simp
      · rw [if_neg h2, if_neg (show ¬ (x.f1 = 1 ∨ x.f1 = 2) by omega), if_neg (show ¬ x.f1 = 3 by omega)]
        simp
    · rw [if_neg h1, if_neg (show ¬ (x.f1 = 1 ∨ x.f1 = 2) by omega), if_neg (show ¬ x.f1 = 3 by omega)]
      simp
theorem eq_bytes (a b : ByteArray) : (a.toList = b.toList) ↔ a = b := by
  rw [toL, toL]; exact ⟨bs_ext, fun e => by rw [e]⟩
theorem ebehind_l0 (a b : List ByteArray) (ha : a.length ≤ 1048576) (hb : b.length ≤ 1048576) : ∀ (d k i : Nat), i + d = a.length → 2 * d + 2 ≤ k → i ≤ b.length → PPack.shaleref18_Behind.l0 k a b (i : Int) = some (behindX ltB (a.drop i) (b.drop i)) := by
  intro d
  induction d with
  | zero =>
    intro k i h hk hi
    obtain ⟨k, rfl⟩ : ∃ m, k = m + 2 := ⟨k - 2, by omega⟩
    rw [PPack.shaleref18_Behind.l0, if_neg (by omega), PPack.shaleref18_Behind.j1, if_neg (by decide), List.drop_eq_nil_of_le (by omega)]
    congr 1
    by_cases hlt : i < b.length
    · rw [edrop b i hlt, decide_eq_true (by omega)]; rfl
    · rw [List.drop_eq_nil_of_le (by omega), decide_eq_false (by omega)]; rfl
  | succ d ih =>
    intro k i h hk hi
    obtain ⟨k, rfl⟩ : ∃ m, k = m + 2 := ⟨k - 2, by omega⟩
    rw [PPack.shaleref18_Behind.l0, if_pos (by omega), PPack.shaleref18_Behind.j1, edrop a i (by omega)]
    by_cases hlt : i < b.length
    · have w1 : wrap64 ((i : Int) + 1) = ((i + 1 : Nat) : Int) := by rw [wr64 ⟨by omega, by omega⟩]; omega
      rw [if_pos (by simpa using hlt), if_pos (by omega), if_pos (by omega), if_pos (by omega), rdOf_nat a i (by omega), rdOf_nat b i hlt, edrop b i hlt, behindX, w1]
      by_cases he : a[i] = b[i]
      · rw [if_pos ((eq_bytes _ _).2 he), if_pos he, ih k (i + 1) (by omega) (by omega) (by omega)]
      · rw [if_neg (fun e => he ((eq_bytes _ _).1 e)), if_neg he]; rfl
    · rw [if_neg (by simpa using hlt), List.drop_eq_nil_of_le (show b.length ≤ i by omega), behindX, decide_eq_false (by omega)]
theorem ebehind (a b : List ByteArray) (ha : a.length ≤ 1048576) (hb : b.length ≤ 1048576) (k : Nat) (hk : 2 * 1048576 + 2 ≤ k) : PPack.shaleref18_Behind.f k a b = some (behindX ltB a b) := by
  have := ebehind_l0 a b ha hb a.length k 0 (by omega) (by omega) (Nat.zero_le _)
  exact this
def dirS (all : List PPack.S45) (l : List ByteArray) : Bool := all.any fun x => decide (x.f1 = 2) && decide (nmS x = l)
theorem edir_l1 (all : List PPack.S45) (ns m : List ByteArray) (j : Int) (hl : m.length = ns.length) (hm : m.length ≤ 1048576) (K : Nat) (R : Bool) (hR : ∀ k, K ≤ k → PPack.shaleref18_dirOf.l0 k all ns (wrap64 (j + 1)) = some R) :
    ∀ (d k i : Nat) (same : Bool), i + d = m.length → K + d + 1 ≤ k → PPack.shaleref18_dirOf.l1 k all ns j m same (i : Int) = some ((same && decide (m.drop i = ns.drop i)) || R) := by
  intro d
  induction d with
  | zero =>
    intro k i same h hk
    obtain ⟨k, rfl⟩ : ∃ m, k = m + 1 := ⟨k - 1, by omega⟩
    rw [PPack.shaleref18_dirOf.l1, if_neg (by omega), List.drop_eq_nil_of_le (by omega), List.drop_eq_nil_of_le (show ns.length ≤ i by omega)]
    cases same with
    | true => simp
    | false => rw [if_neg (by decide), hR k (by omega)]; simp
  | succ d ih =>
    intro k i same h hk
    obtain ⟨k, rfl⟩ : ∃ m, k = m + 1 := ⟨k - 1, by omega⟩
    have w1 : wrap64 ((i : Int) + 1) = ((i + 1 : Nat) : Int) := by rw [wr64 ⟨by omega, by omega⟩]; omega
    rw [PPack.shaleref18_dirOf.l1, if_pos (by omega), w1]
    cases same with
    | true =>
      have hm1 := edrop m i (by omega)
      have hn1 := edrop ns i (by omega)
      rw [if_pos rfl, if_pos (by omega), if_pos (by omega), rdOf_nat m i (by omega), rdOf_nat ns i (by omega), ih k (i + 1) _ (by omega) (by omega), hm1, hn1]
      congr 2
      by_cases he : m[i] = ns[i]
      · have e1 : (m[i].toList == ns[i].toList) = true := by simpa using (eq_bytes _ _).2 he
        have hq : (ns[i] :: m.drop (i + 1) = ns[i] :: ns.drop (i + 1)) ↔ (m.drop (i + 1) = ns.drop (i + 1)) := ⟨fun e => by injection e, fun e => by rw [e]⟩
        rw [e1, he, decide_eq_decide.mpr hq]
      · have e1 : (m[i].toList == ns[i].toList) = false := by
          rw [beq_eq_false_iff_ne]
          exact fun e => he ((eq_bytes _ _).1 e)
        have : ¬ (m[i] :: m.drop (i + 1) = ns[i] :: ns.drop (i + 1)) := fun e => he (by injection e)
        rw [e1, decide_eq_false this]
        rfl
    | false =>
      rw [if_neg (by decide), ih k (i + 1) false (by omega) (by omega)]
      simp
theorem edir_l0 (all : List PPack.S45) (ha : all.length ≤ 1073741824) (hs : ∀ x ∈ all, x.f0.size ≤ 1048575) (ns : List ByteArray) (hn : ns.length ≤ 64) : ∀ (d k j : Nat), j + d = all.length → 70 * d + 2 * 1048576 + 10 ≤ k → PPack.shaleref18_dirOf.l0 k all ns (j : Int) = some (dirS (all.drop j) ns) := by
  intro d
  induction d with
  | zero =>
    intro k j h hk
    obtain ⟨k, rfl⟩ : ∃ m, k = m + 1 := ⟨k - 1, by omega⟩
    rw [PPack.shaleref18_dirOf.l0, if_neg (by omega), List.drop_eq_nil_of_le (by omega)]
    rfl
  | succ d ih =>
    intro k j h hk
    obtain ⟨k, rfl⟩ : ∃ m, k = m + 2 := ⟨k - 2, by omega⟩
    have w1 : wrap64 ((j : Int) + 1) = ((j + 1 : Nat) : Int) := by rw [wr64 ⟨by omega, by omega⟩]; omega
    have hj : j < all.length := by omega
    have hrd : PPack.rd_T45 all (j : Int) = all[j] := by unfold PPack.rd_T45; rw [Int.toNat_natCast]; simp [List.getD, hj]
    have hdr : all.drop j = all[j] :: all.drop (j + 1) := List.drop_eq_getElem_cons hj
    rw [PPack.shaleref18_dirOf.l0, if_pos (by omega), if_pos (by omega), hrd, enm _ (hs _ (List.getElem_mem hj)) (k + 1) (by omega), Option.bind_some, hdr]
    dsimp only
    have hall : dirS (all[j] :: all.drop (j + 1)) ns = ((decide (all[j].f1 = 2) && decide (nmS all[j] = ns)) || dirS (all.drop (j + 1)) ns) := rfl
    rw [hall]
    by_cases h2 : all[j].f1 = 2
    · rw [if_pos h2, PPack.shaleref18_dirOf.j1]
      by_cases hl : (nmS all[j]).length = ns.length
      · have e1 : (((nmS all[j]).length : Int) != (ns.length : Int)) = false := by rw [hl]; simp
        rw [e1, if_neg (by decide), show (0 : Int) = ((0 : Nat) : Int) from rfl, edir_l1 all ns (nmS all[j]) (j : Int) hl (by omega) (70 * d + 2 * 1048576 + 10) (dirS (all.drop (j + 1)) ns) (fun k' hk' => by rw [w1]; exact ih k' (j + 1) (by omega) hk') (nmS all[j]).length k 0 true (by omega) (by omega)]
        simp [h2]
      · have e1 : (((nmS all[j]).length : Int) != (ns.length : Int)) = true := by simp; omega
        have e2 : decide (nmS all[j] = ns) = false := decide_eq_false (fun e => hl (by rw [e]))
        rw [e1, if_pos rfl, w1, ih k (j + 1) (by omega) (by omega), e2]
        simp
    · rw [if_neg h2, PPack.shaleref18_dirOf.j1, if_pos rfl, w1, ih k (j + 1) (by omega) (by omega), decide_eq_false h2]
      simp
theorem edir (all : List PPack.S45) (ha : all.length ≤ 1073741824) (hs : ∀ x ∈ all, x.f0.size ≤ 1048575) (ns : List ByteArray) (hn : ns.length ≤ 64) (k : Nat) (hk : 70 * all.length + 2 * 1048576 + 10 ≤ k) : PPack.shaleref18_dirOf.f k all ns = some (dirS all ns) :=
  edir_l0 all ha hs ns hn all.length k 0 (by omega) hk
def refS (all : List PPack.S45) : PPack.S45 → List PPack.S45 → Bool
  | _, [] => true
  | p, x :: r => okS x && behindX ltB (nmS p) (nmS x) && dirS all (nmS x).dropLast && refS all x r
theorem nmS_len (x : PPack.S45) : (nmS x).length ≤ 64 := by
  unfold nmS namesP
  split
  · rename_i h
    have h4 : (splitQ x.f0.data.toList).2 = 0 := by
      have := h.1
      unfold cleanQ at this
      split at this
      · assumption
      · rename_i h5; exact absurd this h5
    exact (splitQ_good h4).2.2.2.1
  · simp
theorem etree_l0 (all : List PPack.S45) (ha : all.length ≤ 16777216) (hs : ∀ x ∈ all, x.f0.size ≤ 1048575) : ∀ (d k i : Nat), i + d = all.length → 1 ≤ i → d + 70 * all.length + 2 * 1048576 + 20 ≤ k → PPack.shaleref18_Tree.l0 k all (i : Int) = some (if refS all (all.getD (i - 1) PPack.z45) (all.drop i) = true then 0 else 191) := by
  intro d
  induction d with
  | zero =>
    intro k i h h1 hk
    obtain ⟨k, rfl⟩ : ∃ m, k = m + 1 := ⟨k - 1, by omega⟩
    rw [PPack.shaleref18_Tree.l0, if_neg (by omega), List.drop_eq_nil_of_le (by omega)]
    rfl
  | succ d ih =>
    intro k i h h1 hk
    obtain ⟨k, rfl⟩ : ∃ m, k = m + 1 := ⟨k - 1, by omega⟩
    have w1 : wrap64 ((i : Int) + 1) = ((i + 1 : Nat) : Int) := by rw [wr64 ⟨by omega, by omega⟩]; omega
    have w2 : wrap64 ((i : Int) - 1) = ((i - 1 : Nat) : Int) := by rw [wr64 ⟨by omega, by omega⟩]; omega
    have hi : i < all.length := by omega
    have hp : i - 1 < all.length := by omega
    have hrd : PPack.rd_T45 all (i : Int) = all[i] := by unfold PPack.rd_T45; rw [Int.toNat_natCast]; simp [List.getD, hi]
    have hrp : PPack.rd_T45 all ((i - 1 : Nat) : Int) = all[i - 1] := by unfold PPack.rd_T45; rw [Int.toNat_natCast]; simp [List.getD, hp]
    have hgp : all.getD (i - 1) PPack.z45 = all[i - 1] := by simp [List.getD, hp]
    have hdr : all.drop i = all[i] :: all.drop (i + 1) := List.drop_eq_getElem_cons hi
    have hnx := ih k (i + 1) (by omega) (by omega) (by omega)
    have hgi : all.getD (i + 1 - 1) PPack.z45 = all[i] := by rw [show i + 1 - 1 = i by omega]; simp [List.getD, hi]
    rw [hgi] at hnx
    rw [PPack.shaleref18_Tree.l0, if_pos (by omega), if_pos (by omega), hrd, w2, hrp, w1, eleaf _ (hs _ (List.getElem_mem hi)) k (by omega), Option.bind_some, hgp, hdr, refS]
    cases hok : okS all[i] with
    | false => rw [if_neg (by decide)]; simp
    | true =>
      have hb1 := nmS_len all[i]
      have hb2 := nmS_len all[i - 1]
      rw [if_pos rfl, if_neg (by omega), if_pos (by omega), if_pos (by omega), enm _ (hs _ (List.getElem_mem hp)) k (by omega), Option.bind_some, enm _ (hs _ (List.getElem_mem hi)) k (by omega), Option.bind_some, ebehind (nmS all[i - 1]) (nmS all[i]) (by omega) (by omega) k (by omega), Option.bind_some]
      dsimp only
      cases hbh : behindX ltB (nmS all[i - 1]) (nmS all[i]) with
      | false => rw [if_neg (by decide)]; simp
      | true =>
        have hne : nmS all[i] ≠ [] := behind_ne ltB hbh
        have hpos : 0 < (nmS all[i]).length := List.length_pos_iff.mpr hne
        have w3 : wrap64 (((nmS all[i]).length : Int) - 1) = (((nmS all[i]).length - 1 : Nat) : Int) := by rw [wr64 ⟨by omega, by omega⟩]; omega
        rw [if_pos rfl, w3, if_pos (by omega), if_pos (by omega), Int.toNat_natCast, edir all (by omega) hs _ (by rw [List.length_take]; omega) k (by omega), Option.bind_some, ← List.dropLast_eq_take]
        cases dirS all (nmS all[i]).dropLast with
        | false => rw [if_neg (by decide)]; simp
        | true => rw [if_pos rfl, hnx]; simp
/-- the document's test of a tree -/
def treeE (l : List PPack.S45) : Int := match l with
  | [] => 190
  | x :: r => if x.f0.data.toList = [47] ∧ x.f1 = 2 then (if okS x = true ∧ refS (x :: r) x r = true then 0 else 191) else 190
theorem etree (all : List PPack.S45) (ha : all.length ≤ 16777216) (hs : ∀ x ∈ all, x.f0.size ≤ 1048575) (k : Nat) (hk : 71 * all.length + 2 * 1048576 + 40 ≤ k) : PPack.shaleref18_Tree.f k all = some (treeE all) := by
  obtain ⟨k, rfl⟩ : ∃ m, k = m + 2 := ⟨k - 2, by omega⟩
  unfold PPack.shaleref18_Tree.f
  cases all with
  | nil => rfl
  | cons x r =>
    have hrd : PPack.rd_T45 (x :: r) 0 = x := rfl
    have hl : (x :: r).length = r.length + 1 := rfl
    rw [if_neg (by rw [hl]; omega), if_pos (by rw [hl]; omega), hrd, toL, treeE]
    by_cases h1 : x.f0.data.toList = [47]
    · rw [if_pos h1, PPack.shaleref18_Tree.j0]
      by_cases h2 : x.f1 = 2
      · have e2 : (x.f1 != 2) = false := by simp [h2]
        rw [e2, if_neg (by decide), if_pos ⟨h1, h2⟩, PPack.shaleref18_Tree.l0, if_pos (by rw [hl]; omega), if_pos (by decide), hrd, eleaf x (hs x List.mem_cons_self) k (by omega), Option.bind_some]
        cases hok : okS x with
        | false => rw [if_neg (by decide)]; simp
        | true =>
          have w1 : wrap64 ((0 : Int) + 1) = ((1 : Nat) : Int) := by rw [wr64 ⟨by omega, by omega⟩]; rfl
          rw [if_pos rfl, if_pos rfl, w1, etree_l0 (x :: r) ha hs r.length k 1 (by rw [hl]; omega) (Nat.le_refl _) (by rw [hl] at hk ⊢; omega)]
          simp
      · have e2 : (x.f1 != 2) = true := by simp [h2]
        rw [e2, if_pos rfl, if_neg (fun e => h2 e.2)]
    · rw [if_neg h1, PPack.shaleref18_Tree.j0, if_pos rfl, if_neg (fun e => h1 e.1)]

/-! ### The document's test is the program's -/
theorem ltB_irr (a : ByteArray) : ltB a a = false := by
  unfold ltB
  rw [bl_eq]
  simp
theorem ltB_tr (a b c : ByteArray) (h1 : ltB a b = true) (h2 : ltB b c = true) : ltB a c = true := by
  unfold ltB at h1 h2 ⊢
  rw [bl_eq] at h1 h2 ⊢
  rw [decide_eq_true_eq] at h1 h2 ⊢
  exact List.lt_trans h1 h2
def toPl (l : Lf) : PPack.S45 := ⟨l.path, l.ty, l.mode, l.stamp, l.data, l.tgt⟩
def pairL (l : Lf) : List ByteArray × Bool := (nmL l, decide (l.ty = 2))
theorem restB_eq : ∀ (r : List Lf) (ahead : List ByteArray) (dir : Bool), restB ahead dir r = (r.all (fun l => okS (toPl l)) && progT ltB ahead dir (r.map pairL)) := by
  intro r
  induction r with
  | nil => intro _ _; rfl
  | cons l r ih =>
    intro ahead dir
    rw [restB, ih, List.all_cons, List.map_cons]
    show _ = (okS (toPl l) && _ && progT ltB ahead dir ((nmL l, decide (l.ty = 2)) :: _))
    rw [progT]
    have : okS (toPl l) = ((namesP l.path.data.toList).isSome && okL l) := rfl
    rw [this]
    generalize (namesP l.path.data.toList).isSome = a
    generalize okL l = b
    generalize stepX ltB ahead dir (nmL l) = c
    cases a <;> cases b <;> cases c <;> simp
theorem dirS_eq (all : List Lf) (ns : List ByteArray) : dirS (all.map toPl) ns = dirX (all.map pairL) ns := by
  unfold dirS dirX
  rw [List.any_map, List.any_map]
  rfl
theorem refS_eq (all : List Lf) : ∀ (r : List Lf) (p : Lf), refS (all.map toPl) (toPl p) (r.map toPl) = (r.all (fun l => okS (toPl l)) && refT ltB (all.map pairL) (nmL p) (r.map pairL)) := by
  intro r
  induction r with
  | nil => intro _; rfl
  | cons l r ih =>
    intro p
    rw [List.map_cons, refS, ih, dirS_eq, List.all_cons, List.map_cons]
    show _ = (okS (toPl l) && _ && refT ltB (all.map pairL) (nmL p) ((nmL l, decide (l.ty = 2)) :: _))
    rw [refT]
    have e1 : nmS (toPl l) = nmL l := rfl
    have e2 : nmS (toPl p) = nmL p := rfl
    rw [e1, e2]
    generalize okS (toPl l) = a
    generalize behindX ltB (nmL p) (nmL l) = b
    generalize dirX (all.map pairL) (nmL l).dropLast = c
    generalize List.all r (fun l => okS (toPl l)) = d
    cases a <;> cases b <;> cases c <;> cases d <;> simp
theorem nm_root : namesP [47] = some [] := by decide
theorem treeE_eq (t : List Lf) : treeE (t.map toPl) = (packX t).2 := by
  cases t with
  | nil => rfl
  | cons x r =>
    rw [List.map_cons]
    unfold treeE packX
    dsimp only
    have e0 : (toPl x).f0 = x.path := rfl
    have e1 : (toPl x).f1 = x.ty := rfl
    rw [e0, e1]
    by_cases h : x.path.data.toList = [47] ∧ x.ty = 2
    · rw [if_pos h, if_pos h]
      have hn : nmL x = [] := by unfold nmL; rw [h.1, nm_root]; rfl
      have hk : okS (toPl x) = okL x := by
        show ((namesP x.path.data.toList).isSome && _) = _
        rw [h.1, nm_root]; rfl
      have hr := refS_eq (x :: r) r x
      rw [List.map_cons] at hr
      rw [hr, hk, hn]
      have hp : (x :: r).map pairL = ([], true) :: r.map pairL := by
        rw [List.map_cons]
        unfold pairL
        rw [hn, decide_eq_true h.2]
      rw [hp, ← prog_is_ref ltB (fun a => ltB_irr a) ltB_tr, ← restB_eq]
      split <;> rfl
    · rw [if_neg h, if_neg h]
end Go.Proofs.YtlnaeppbhjmocaaDoor
