/- shalelaw18.heads: the chapter's first example comes: it returns true. -/
import Derived.Test.YtlnaeppbhjmocaaDoorU11
set_option linter.unusedSectionVars false
set_option linter.unnecessarySimpa false
set_option linter.unusedSimpArgs false
set_option linter.unusedVariables false
set_option linter.unusedSimpArgs false
set_option linter.unusedVariables false
namespace Go.Proofs.YtlnaeppbhjmocaaDoor
open Go.RowKit Go.Proofs Go.Shelf

theorem packX_bad {x : Lf} {r : List Lf} (h1 : x.path.data.toList = [47]) (h2 : x.ty = 2) (h : okL x = false ∨ restB [] true r = false) : packX (x :: r) = ([], 191) := by
  unfold packX
  dsimp only
  rw [if_pos ⟨h1, h2⟩, if_neg]
  rintro ⟨h3, h4⟩
  rcases h with h | h
  · rw [h3] at h; cases h
  · rw [h4] at h; cases h
def bodyP (x : Lf) (r : List Lf) : List Int := headX x ++ r.flatMap (fun y => pieceB y (nmL y)) ++ [255]
theorem packX_good {x : Lf} {r : List Lf} (h1 : x.path.data.toList = [47]) (h2 : x.ty = 2) (h3 : okL x = true) (h4 : restB [] true r = true) : packX (x :: r) = (bodyP x r ++ le (crcI (bodyP x r)) 4, 0) := by
  unfold packX bodyP
  dsimp only
  rw [if_pos ⟨h1, h2⟩, if_pos ⟨h3, h4⟩]
theorem packX_head {x : Lf} {r : List Lf} (h : ¬ (x.path.data.toList = [47] ∧ x.ty = 2)) : packX (x :: r) = ([], 190) := by
  unfold packX
  dsimp only
  rw [if_neg h]
/-- the head as it is written ahead of any test -/
def headM (x : Lf) : List Int := [80, 82, 67, 76, 1] ++ le (IntKind.u64.wrap x.mode) 2 ++ le x.stamp 8
/-- how far the pieces are told -/
def PInv (x : Lf) (r : List Lf) (i : Nat) (ys : List Int) (ahead : List ByteArray) (dir : Bool) : Prop :=
  (i = 0 ∧ ahead = [] ∧ ys = headM x) ∨ (1 ≤ i ∧ okL x = true ∧ restB ahead dir ((x :: r).drop i) = restB [] true r ∧ ys ++ ((x :: r).drop i).flatMap (fun y => pieceB y (nmL y)) = headX x ++ r.flatMap (fun y => pieceB y (nmL y)) ∧ dir = decide (((x :: r).getD (i - 1) x).ty = 2))

theorem names_R {s : List UInt8} {ns : List ByteArray} {nb : Bool} (h : namesR s = (ns, nb)) : (namesP s).isSome = nb ∧ (namesP s).getD [] = ns := by
  unfold namesR at h
  cases hq : namesP s with
  | none => rw [hq] at h; injection h with h1 h2; subst h1 h2; exact ⟨rfl, rfl⟩
  | some l => rw [hq] at h; injection h with h1 h2; subst h1 h2; exact ⟨rfl, rfl⟩
theorem pinv_drop {x : Lf} {r : List Lf} {i : Nat} {l : Lf} (hl : (x :: r)[i]? = some l) : (x :: r).drop i = l :: (x :: r).drop (i + 1) := by
  obtain ⟨h1, h2⟩ := List.getElem?_eq_some_iff.1 hl
  rw [List.drop_eq_getElem_cons h1, h2]
theorem pinv_bad {x : Lf} {r : List Lf} {i : Nat} {ys : List Int} {ahead : List ByteArray} {dir : Bool} {l : Lf} (h : PInv x r i ys ahead dir) (hl : (x :: r)[i]? = some l) (h1 : x.path.data.toList = [47]) (h2 : x.ty = 2)
    (hb : (namesP l.path.data.toList).isSome = false ∨ okL l = false ∨ (1 ≤ i ∧ stepX ltB ahead dir (nmL l) = false)) : packX (x :: r) = ([], 191) := by
  rcases h with ⟨h0, _, _⟩ | ⟨h0, _, h4, _, _⟩
  · subst h0
    have hlx : x = l := by simpa using hl
    subst hlx
    rcases hb with hb | hb | hb
    · rw [h1] at hb
      have : namesP [47] = some [] := by decide
      rw [this] at hb; cases hb
    · exact packX_bad h1 h2 (.inl hb)
    · omega
  · refine packX_bad h1 h2 (.inr ?_)
    rw [← h4, pinv_drop hl, restB]
    rcases hb with hb | hb | hb
    · rw [hb]; rfl
    · rw [hb]; simp
    · rw [hb.2]; simp
theorem pinv_first {x : Lf} {r : List Lf} {ys : List Int} {ahead : List ByteArray} {dir : Bool} (h : PInv x r 0 ys ahead dir) (h2 : x.ty = 2) (hok : okL x = true) : PInv x r 1 ys [] true ∧ ahead = [] := by
  rcases h with ⟨_, h3, h4⟩ | ⟨h0, _⟩
  · refine ⟨.inr ⟨Nat.le_refl _, hok, rfl, ?_, ?_⟩, h3⟩
    · rw [h4]
      have hm := okL_ty hok
      have e : IntKind.u64.wrap x.mode = x.mode := u64_in ⟨by omega, by omega⟩
      unfold headM headX
      rw [e]
      rfl
    · simp [h2]
  · omega
theorem pinv_next {x : Lf} {r : List Lf} {i : Nat} {ys : List Int} {ahead : List ByteArray} {dir : Bool} {l : Lf} (h : PInv x r (i + 1) ys ahead dir) (hl : (x :: r)[i + 1]? = some l)
    (hn : (namesP l.path.data.toList).isSome = true) (hok : okL l = true) (hs : stepX ltB ahead dir (nmL l) = true) : PInv x r (i + 1 + 1) (ys ++ pieceB l (nmL l)) (nmL l) (decide (l.ty = 2)) := by
  rcases h with ⟨h0, _, _⟩ | ⟨h0, h3, h4, h5, h6⟩
  · omega
  · refine .inr ⟨by omega, h3, ?_, ?_, ?_⟩
    · rw [← h4, pinv_drop hl, restB, hn, hok, hs]; rfl
    · rw [← h5, pinv_drop hl, List.flatMap_cons]; simp
    · rw [show i + 1 + 1 - 1 = i + 1 by omega, List.getD, hl]; rfl
theorem bytesOk_app {a b : List Int} (ha : bytesOk a) (hb : bytesOk b) : bytesOk (a ++ b) := fun x hx => by
  rcases List.mem_append.1 hx with h | h
  · exact ha x h
  · exact hb x h
theorem bytesOk_one {v : Int} (h : 0 ≤ v ∧ v ≤ 255) : bytesOk [v] := fun x hx => by rw [List.mem_singleton.1 hx]; exact h
theorem bytesI_ok (s : ByteArray) : bytesOk (bytesI s) := by
  intro x hx
  obtain ⟨c, _, rfl⟩ := List.mem_map.mp hx
  have := c.toNat_lt
  omega
theorem stretB_ok {L : List Int} (hL : bytesOk L) : bytesOk ((stretX L).flatMap (stretB L)) := by
  intro x hx
  obtain ⟨s, hs, hx⟩ := List.mem_flatMap.1 hx
  have hm := stretS_mem L L.length 0 (Nat.zero_le _) s hs
  unfold stretB at hx
  rcases List.mem_cons.1 hx with h | h
  · rcases hm.1 with e | e <;> (rw [h, e]; decide)
  · rcases List.mem_append.1 h with h | h
    · exact le_mem _ 4 x h
    · split at h
      · exact (hL.drop _).take _ x h
      · cases h
theorem piece_ok {l : Lf} {ns : List ByteArray} (hok : okL l = true) (hd : bytesOk l.data) (h64 : ns.length ≤ 64) (hsz : (ns.getLastD ⟨#[]⟩).size ≤ 63) : bytesOk (pieceB l ns) ∧ (pieceB l ns).length ≤ 256 + 6 * l.data.length := by
  obtain ⟨t1, t3, m0, m1, dl, dnil, gnil, gok⟩ := okL_ty hok
  have hc := stretX_len l.data
  have htg : l.ty = 3 → l.tgt.size ≤ 127 := fun e => by
    have h := gok e
    unfold targetB at h
    simp only [Bool.and_eq_true, decide_eq_true_eq] at h
    exact h.1.2
  unfold pieceB pieceH pieceT
  constructor
  · refine bytesOk_app (bytesOk_app (bytesOk_app (bytesOk_app (bytesOk_app (fun x hx => ?_) (le_mem _ _)) (le_mem _ _)) (bytesOk_one (by omega))) (bytesI_ok _)) ?_
    · rcases List.mem_cons.1 hx with h | h
      · omega
      · rw [List.mem_singleton.1 h]; omega
    · split
      · unfold cutB; exact bytesOk_app (le_mem _ _) (stretB_ok hd)
      · split
        · rename_i h3
          have := htg h3
          exact bytesOk_app (bytesOk_one (by omega)) (bytesI_ok _)
        · exact fun x hx => by cases hx
  · have h9 : (if l.ty = 1 then cutB l.data else if l.ty = 3 then [(l.tgt.size : Int)] ++ bytesI l.tgt else []).length ≤ 132 + 6 * l.data.length := by
      split
      · unfold cutB; rw [List.length_append, le_length]; omega
      · split
        · rename_i h3
          have := htg h3
          rw [List.length_append, bytesI_length]; simp; omega
        · simp
    simp only [List.length_append, List.length_cons, List.length_nil, le_length, bytesI_length]
    omega
/-- a row of names lies elsewhere than bytes of the call's own -/
theorem SRow.grown {W W' : World} {na : Option Addr} {ns : List ByteArray} {B : Nat} {a : Option Addr} {d : Nat} {ys : List Int} (h : SRow W na ns) (O : OwnB W B (.slice a ys.length d) ys) (hy : 0 < ys.length) (q : W.grownBy W' (Value.slice a ys.length d).ownBlock) : SRow W' na ns := fun i hi => by
  obtain ⟨g, hA, hc⟩ := h i hi
  refine ⟨g, hA, q.cell hc (fun e => ?_)⟩
  obtain ⟨ga, ca, hv, _, _⟩ := O.blk hy
  obtain ⟨g2, hA2, hc2⟩ := h 0 (by omega)
  rw [hA] at hA2
  injection hA2 with hA2
  injection hA2 with hA2
  subst hA2
  injection hv with e1 e2 e3
  subst e1 e3
  have e4 : g = ga := by simpa [Value.ownBlock] using e
  subst e4
  have := O.cellAt 0 hy
  rw [hc2] at this
  cases this

set_option maxRecDepth 100000 in
set_option maxHeartbeats 3200000 in
theorem pack_anyG (G : Lf → Nat) (A : Option Addr) (c : Nat) (tv : List (Lf × Value)) (w : World) (hw : Ok w) (hT : LAt w A tv) (hc : tv.length ≤ c) (hn : tv.length ≤ 268435456) (hs : ∀ p ∈ tv, p.1.path.size ≤ 1048575) (hst : ∀ p ∈ tv, 0 ≤ p.1.stamp ∧ p.1.stamp ≤ 18446744073709551615)
    (hG : ∀ p ∈ tv, okL p.1 = true → (namesP p.1.path.data.toList).isSome = true → nmL p.1 ≠ [] → (pieceB p.1 (nmL p.1)).length ≤ G p.1) (hW : (tv.map fun p => G p.1).sum ≤ 536870912) (hbd : ∀ p ∈ tv, bytesOk p.1.data) (hB0 : 0 < w.heap.size) :
    Calls Tryd.prog 21 #[.slice A tv.length c] w fun e w' => ∃ v, e = .returned (.tuple #[v, .int .i64 (packX (tv.map Prod.fst)).2]) ∧ OwnB w' w.heap.size v (packX (tv.map Prod.fst)).1 ∧ Fr w w' := by
  cases tv with
  | nil =>
    go_enter Tryd.func21, Tryd.ntmps21
    go_wp2_with fail
    exact ⟨rfl, _, results_tmp2 rfl _ _ _, _, rfl, OwnB.nil _ _, Fr.refl hw⟩
  | cons p tl =>
    obtain ⟨n, hn'⟩ : ∃ n, (p :: tl).length = n := ⟨_, rfl⟩
    have hnt : n = tl.length + 1 := by rw [← hn']; simp
    obtain ⟨g, o, hA, hg, hcells⟩ := hT.1.resolve_left (by simp)
    subst hA
    obtain ⟨PP, hPP⟩ : ∃ PP, packX ((p :: tl).map Prod.fst) = PP := ⟨_, rfl⟩
    rw [hPP]
    rw [List.map_cons] at hPP
    rw [hn'] at hc hn ⊢
    have hcell : ∀ i q, (p :: tl)[i]? = some q → ∀ j v, (lcell q)[j]? = some v → w.cell? ⟨g, o + i * 6 + j, none⟩ = some v := fun i q hi j v hv => hcells i (lcell q) (by rw [List.getElem?_map, hi]; rfl) j v (by
      have h1 := (List.getElem?_eq_some_iff.1 hv).1
      have h2 : (lcell q).length = 6 := rfl
      omega) hv
    obtain ⟨x, pv⟩ := p
    have r0 : w.cell? ⟨g, o, none⟩ = some (.string x.path) := by have := hcell 0 (x, pv) rfl 0 _ rfl; simpa using this
    have r1 : w.cell? ⟨g, o + 1, none⟩ = some (.int .i64 x.ty) := by have := hcell 0 (x, pv) rfl 1 _ rfl; simpa using this
    have r2 : w.cell? ⟨g, o + 2, none⟩ = some (.int .i64 x.mode) := by have := hcell 0 (x, pv) rfl 2 _ rfl; simpa using this
    have r3 : w.cell? ⟨g, o + 3, none⟩ = some (.int .u64 x.stamp) := by have := hcell 0 (x, pv) rfl 3 _ rfl; simpa using this
    have d0 : ¬ ((n : Int) = 0) := by omega
    have d1 : (0 : Int) < (n : Int) := by omega
    have HPP := Lib.hid hPP
    clear hPP
    obtain ⟨bp, hbp⟩ : ∃ b : Bool, (x.path.toList == [47]) = b := ⟨_, rfl⟩
    have hbp2 : decide (x.path.data.toList = [47]) = bp := by rw [← hbp, toL, Bool.eq_iff_iff]; simp
    cases bp with
    | false =>
      have hPe : PP = ([], 190) := by rw [← HPP.out]; exact packX_head (fun e => by rw [decide_eq_true e.1] at hbp2; cases hbp2)
      subst hPe
      clear hbp2
      go_enter Tryd.func21, Tryd.ntmps21
      go_wp2_with fail
      exact ⟨rfl, _, results_tmp2 rfl _ _ _, _, rfl, OwnB.nil _ _, Fr.refl hw⟩
    | true =>
      have hp47 : x.path.data.toList = [47] := of_decide_eq_true hbp2
      clear hbp2
      by_cases ht2 : x.ty = 2
      · have HH := Lib.hid (And.intro hp47 ht2)
        have d2 : (x.ty != 2) = false := by simp [ht2]
        clear hp47 ht2
        go_enter Tryd.func21, Tryd.ntmps21
        go_upto_region 3 with fail
        have f0 := (Fr.refl hw).drew
        obtain ⟨wk, gk, hgk, hcv, fk, hgk2, Hk⟩ := head_row f0.ok
        have hBk : BytesAt wk (some ⟨gk, 0, none⟩) [80, 82, 67, 76, 1] := by
          refine .inr ⟨gk, 0, rfl, hgk2, fun i y hy => ?_⟩
          rw [Nat.zero_add]
          refine blk_cell Hk ?_
          have hi : i < 5 := (List.getElem?_eq_some_iff.1 hy).1
          rcases (by omega : i = 0 ∨ i = 1 ∨ i = 2 ∨ i = 3 ∨ i = 4) with rfl | rfl | rfl | rfl | rfl <;> (simp at hy; subst hy; rfl)
        have hmr : 0 ≤ IntKind.u64.wrap x.mode ∧ IntKind.u64.wrap x.mode ≤ 18446744073709551615 := by rw [IntKind.wrap_u64]; omega
        have hxs := hst (x, pv) List.mem_cons_self
        dsimp only at hxs
        have fk2 := f0.trans fk
        have HP1 := put_first ⟨gk, 0, none⟩ [80, 82, 67, 76, 1] (IntKind.u64.wrap x.mode) 2 hmr.1 hmr.2 (by decide) (by decide) wk fk2.ok hBk (by decide)
        obtain ⟨y1, hy1⟩ : ∃ y, [80, 82, 67, 76, 1] ++ le (IntKind.u64.wrap x.mode) 2 = y := ⟨_, rfl⟩
        have hl1 : y1.length = 7 := by rw [← hy1, List.length_append, le_length]; rfl
        rw [hy1] at HP1
        obtain ⟨M, hM⟩ : ∃ M, IntKind.u64.wrap x.mode = M := ⟨_, rfl⟩
        rw [hM] at HP1
        have HY1 := Lib.hid hy1
        have HL1 := Lib.hid hl1
        have HMM := Lib.hid hM
        clear hy1 hl1 hmr
        refine Reg.wp_region_late (fun w' => Fr w w') 13 [2, 3, 4, 5, 6, 8, 9, 10, 11] [0, 1, 7, 12, 13] (by kernel_rfl) (by kernel_rfl) f0 ?_
        obtain ⟨wd, hwd⟩ : ∃ wd, w.drew = wd := ⟨_, rfl⟩
        rw [hwd] at f0 hcv hgk fk ⊢
        clear hwd
        iterate 9
          refine Reg.wpLateT_step (v := ?_) rfl ?_ (fun w' hS => ?_) ?_
          rotate_left
          · simp [Region.wanted]
          · have s0 := hS.cell r0
            have s2 := hS.cell r2
            have s3 := hS.cell r3
            go_simp
            try (first | rfl | exact ⟨rfl, rfl⟩)
        refine Reg.wpMainT_run (v := (.slice (some ⟨gk, 0, none⟩) 5 5)) (w' := wd.alloc (.cells #[.int .u8 80, .int .u8 82, .int .u8 67, .int .u8 76, .int .u8 1] 5)) rfl (by simp [Region.wanted]) ?_ (.inr (f0.alloc _)) ?_
        · go_simp
          try (first | rfl | exact ⟨rfl, rfl⟩)
        refine Reg.wpMainT_run (v := (.slice (some ⟨gk, 0, none⟩) 5 5)) (w' := wk) rfl (by simp [Region.wanted]) ?_ (.inr fk2) ?_
        · go_simp
          try (first | rfl | exact ⟨rfl, rfl⟩)
        refine Reg.wpMainT_enter (fn := 39) (args := #[.slice (some ⟨gk, 0, none⟩) 5 5, .int .u64 M, .int .i64 2]) rfl (by simp [Region.wanted]) ?_ HP1 ?_
        · go_simp
          try (first | rfl | exact ⟨rfl, rfl⟩)
        rintro e w2 ⟨a2, d2, rfl, O2, q2⟩
        have f2 := fk2.trans (fr_of_grown fk2.ok q2)
        refine ⟨_, rfl, .inr f2, ?_⟩
        have hlow := fk2.size
        have O2' := O2.low hlow
        have HP2 := put_any w.heap.size a2 d2 y1 x.stamp 8 hxs.1 hxs.2 (by decide) w2 f2.ok O2' f2.size (by have := HL1.out; omega)
        obtain ⟨y2, hy2⟩ : ∃ y, y1 ++ le x.stamp 8 = y := ⟨_, rfl⟩
        have hl2 : y2.length = 15 := by rw [← hy2, List.length_append, le_length]; have := HL1.out; omega
        rw [hy2] at HP2
        have HY2 := Lib.hid hy2
        have HL2 := Lib.hid hl2
        clear hy2 hl2
        refine Reg.wpMainT_enter (fn := 39) (args := #[.slice a2 y1.length d2, .int .u64 x.stamp, .int .i64 8]) rfl (by simp [Region.wanted]) ?_ HP2 ?_
        · go_simp
          try (first | rfl | exact ⟨rfl, rfl⟩)
        rintro e w3 ⟨a3, d3, rfl, O3, q3, i3⟩
        have f3 : Fr w w3 := Fr.row f2 hw q3 (fun k e => (World.ownsRow.lt O2' k e).1)
        refine ⟨_, rfl, .inr f3, ?_⟩
        refine Reg.wpMainT_run (v := (.slice a3 y2.length d3)) (w' := w3) rfl (by simp [Region.wanted]) ?_ (.inl rfl) ?_
        · go_simp
          try (first | rfl | exact ⟨rfl, rfl⟩)
        refine Reg.wpMainT_nil ?_
        simp only [List.getElem_toArray, List.getElem_cons_succ, List.getElem_cons_zero, Act.put, List.setIfInBounds_toArray, List.set_cons_zero, List.set_cons_succ]
        have HM2 : Hid (y2 = headM x) := Lib.hid (by rw [← HY2.out, ← HY1.out]; rfl)
        have hb2 : bytesOk y2 := by
          rw [HM2.out]
          unfold headM
          refine bytesOk_app (bytesOk_app (fun z hz => ?_) (le_mem _ _)) (le_mem _ _)
          simp at hz
          omega
        have HB2 := Lib.hid hb2
        have HO3 := Lib.hid O3
        have HF3 := Lib.hid f3
        clear hb2 O3 f3 q3 i3 O2 O2' q2 f2 HP2 HP1 hcv hgk Hk hBk fk fk2 f0 r0 r1 r2 r3 hlow HY1 HY2 HMM hbp
        go_wp2_with fail
        go_loopg [4, 5, 45] n (fun k v4 v5 v45 wc => ∃ (i : Nat) (ys : List Int) (a : Option Addr) (d : Nat) (ahead : List ByteArray) (na : Option Addr) (nc : Nat) (dir : Bool), i + k = n ∧ v4 = .slice a ys.length d ∧ v5 = .slice na ahead.length nc ∧ v45 = .int .i64 i ∧ ahead.length ≤ nc ∧ ahead.length ≤ 64 ∧ Hid (PInv x (tl.map Prod.fst) i ys ahead dir) ∧ Hid (OwnB wc w.heap.size (.slice a ys.length d) ys) ∧ Hid (SRow wc na ahead) ∧ Hid (Fr w wc) ∧ Hid (bytesOk ys) ∧ Hid (15 ≤ ys.length ∧ ys.length ≤ 15 + ((((x, pv) :: tl).take i).map fun p => G p.1).sum))
        case atStart => exact ⟨0, y2, a3, d3, [], none, 0, true, by omega, rfl, rfl, rfl, Nat.le_refl _, by simp, Lib.hid (.inl ⟨rfl, rfl, HM2.out⟩), HO3, Lib.hid (fun i hi => by cases hi), HF3, HB2, Lib.hid (by rw [HL2.out]; simp)⟩
        case round =>
          obtain ⟨i, ys, a, d, ahead, na, nc, dir, hik, rfl, rfl, rfl, hnc, h64, HI, HO, HS, HF, HB, HL⟩ := hrel
          cases gk with
          | zero =>
            obtain rfl : i = n := by omega
            have d5 : decide ((i : Int) < (i : Int)) = false := decide_eq_false (by omega)
            obtain ⟨_, hx1, hx2, hx3, _⟩ := HI.out.resolve_left (fun e => by omega)
            have hdr : (x :: tl.map Prod.fst).drop i = [] := List.drop_eq_nil_of_le (by simp; omega)
            rw [hdr] at hx2 hx3
            have hPe : PP = (bodyP x (tl.map Prod.fst) ++ le (crcI (bodyP x (tl.map Prod.fst))) 4, 0) := by rw [← HPP.out]; exact packX_good HH.out.1 HH.out.2 hx1 (by rw [← hx2]; rfl)
            have hys : ys ++ [255] = bodyP x (tl.map Prod.fst) := by
              unfold bodyP
              rw [← hx3]
              simp
            subst hPe
            have hlen := HL.out
            rw [List.take_of_length_le (by simp; omega)] at hlen
            obtain ⟨g5, hg5⟩ : ∃ g, wr.heap.size = g := ⟨_, rfl⟩
            obtain ⟨w5, v6, w6, hw5, hap, O6, q6, i6⟩ := append_lit 22 w.heap.size a d ys [255] wr HO.out (by simp; omega) HF.out.size
            rw [hg5] at hap
            simp only [List.map_cons, List.map_nil, List.length_cons, List.length_nil, Nat.zero_add, Nat.reduceAdd] at hw5 hap
            have hbB : bytesOk (ys ++ [255]) := bytesOk_app HB.out (bytesOk_one (by decide))
            have hlB : (ys ++ [255]).length ≤ 536870928 := by rw [List.length_append]; simp; omega
            rw [hys] at O6 hbB hlB
            obtain ⟨BB, hBB⟩ : ∃ BB, bodyP x (tl.map Prod.fst) = BB := ⟨_, rfl⟩
            rw [hBB] at O6 hbB hlB
            obtain ⟨a6, d6, rfl⟩ := O6.form
            have f6 : Fr w w6 := Fr.row HF.out hw q6 (fun k e => (World.ownsRow.lt HO.out k e).1)
            have hcrr := crcI_rg hbB
            have hsum := sum_any a6 d6 BB hbB O6.at.2.2 (by omega) w6 f6.ok O6.at.1
            obtain ⟨cr, hcr⟩ : ∃ cr, crcI BB = cr := ⟨_, rfl⟩
            rw [hcr] at hsum hcrr
            have hput := put_any w.heap.size a6 d6 BB cr 4 hcrr.1 (by omega) (by decide) w6 f6.ok O6 f6.size (by omega)
            obtain ⟨ZZ, hZZ⟩ : ∃ Z, BB ++ le cr 4 = Z := ⟨_, rfl⟩
            rw [hZZ] at hput
            have HEQ : Hid (bodyP x (tl.map Prod.fst) ++ le (crcI (bodyP x (tl.map Prod.fst))) 4 = ZZ) := Lib.hid (by rw [hBB, hcr, hZZ])
            have e9 : IntKind.u64.wrap cr = cr := u64_in ⟨by omega, by omega⟩
            have HF6 := Lib.hid (And.intro f6 O6)
            have HSum := Lib.hid hsum
            have HPut := Lib.hid hput
            clear hsum hput f6 O6 hys hdr hx2 hx3 hbB hlB hlen hcrr hcr hZZ hBB q6 i6
            go_wp2_with (first
              | (at_builtin; refine wpList_append_run rfl _ _ 22 22 rfl (by simp [Act.eval]) (by simp [Act.eval]) hap ?_)
              | (go_at_call 40; refine HSum.out.mono ?_; rintro e w7 ⟨rfl, he⟩; replace he := he.symm; subst he)
              | (go_at_call 39; refine HPut.out.mono ?_; rintro e w8 ⟨a8, d8, rfl, O8, q8, i8⟩))
            refine ⟨rfl, _, results_tmp2 rfl _ _ _, _, rfl, ?_, Fr.row HF6.out.1 hw q8 (fun k e => (World.ownsRow.lt HF6.out.2 k e).1)⟩
            rw [HEQ.out]
            exact O8
          | succ k =>
            have d5 : decide ((i : Int) < (n : Int)) = true := decide_eq_true (by omega)
            have d6 : (0 : Int) ≤ (i : Int) := by omega
            have d7 : (i : Int) < (n : Int) := by omega
            obtain ⟨⟨l, lv⟩, hq⟩ : ∃ q, ((x, pv) :: tl)[i]? = some q := ⟨_, List.getElem?_eq_getElem (by omega)⟩
            have hmem := List.mem_of_getElem? hq
            obtain ⟨da, dd, hlv, hBD, hdd, hdn⟩ := hT.2 _ hmem
            dsimp only at hlv hBD hdd
            subst hlv
            have b0 := HF.out.cell (hcell i _ hq 0 _ rfl)
            have b1 := HF.out.cell (hcell i _ hq 1 _ rfl)
            have b2 := HF.out.cell (hcell i _ hq 2 _ rfl)
            have b3 := HF.out.cell (hcell i _ hq 3 _ rfl)
            have b4 := HF.out.cell (hcell i _ hq 4 _ rfl)
            have b5 := HF.out.cell (hcell i _ hq 5 _ rfl)
            simp only [Nat.add_zero] at b0
            obtain ⟨w1, g1, hg1, hw1, f1, hz1, H1⟩ := boxedN HF.out.ok #[.string l.path, .int .i64 l.ty, .int .i64 l.mode, .int .u64 l.stamp, .slice da l.data.length dd, .string l.tgt] 45
            obtain ⟨l0, l1, l2, l3, l4, l5⟩ := blk6 H1
            have hps := hs _ hmem
            dsimp only at hps
            have HN : Hid (∀ W, Fr w1 W → Calls Tryd.prog 46 #[.string l.path] W fun e w' => ∃ A c, e = .returned (.tuple #[.slice A (namesR l.path.data.toList).1.length c, .bool (namesR l.path.data.toList).2]) ∧ SRow w' A (namesR l.path.data.toList).1 ∧ (namesR l.path.data.toList).1.length ≤ c ∧ Fr W w') := Lib.hid (fun W q => by
              have h := namesOf_any l.path.data.toList (by have : l.path.data.toList.length = l.path.size := rfl; omega) W q.ok
              rwa [show (⟨l.path.data.toList.toArray⟩ : ByteArray) = l.path from by simp] at h)
            have HG : Hid (∀ W, Fr w1 W → Calls Tryd.prog 47 #[.agg #[.string l.path, .int .i64 l.ty, .int .i64 l.mode, .int .u64 l.stamp, .slice da l.data.length dd, .string l.tgt]] W fun e w' => e = .returned (.bool (okL l)) ∧ Fr W w') := Lib.hid (fun W q => good_any l.path l.ty l.mode l.stamp da l.data.length dd l.tgt W q.ok)
            obtain ⟨ok, hok⟩ : ∃ b, okL l = b := ⟨_, rfl⟩
            rw [hok] at HG
            obtain ⟨⟨ns, nb⟩, hns⟩ : ∃ q, namesR l.path.data.toList = q := ⟨_, rfl⟩
            rw [hns] at HN
            dsimp only at HN
            have HNS := Lib.hid hns
            have HOK := Lib.hid hok
            have HQ := Lib.hid hq
            clear hns hok hq hcells
            have HCell := Lib.hid hcell
            clear hcell
            have hql : (x :: tl.map Prod.fst)[i]? = some l := by
              have := congrArg (Option.map Prod.fst) HQ.out
              rw [← List.getElem?_map] at this
              simpa using this
            have HQL := Lib.hid hql
            clear hql
            cases nb with
            | false =>
              have hPe : PP = ([], 191) := by rw [← HPP.out]; exact pinv_bad HI.out HQL.out HH.out.1 HH.out.2 (.inl (names_R HNS.out).1)
              subst hPe
              go_wp2_with (first
                | (go_at_call 46; refine (HN.out _ (Fr.refl f1.ok)).mono ?_; rintro e w2 ⟨A2, c2, rfl, S2, hc2, q⟩))
              go_ret2
              exact ⟨_, rfl, OwnB.nil _ _, (HF.out.trans f1).trans q⟩
            | true =>
              cases ok with
              | false =>
                have hPe : PP = ([], 191) := by rw [← HPP.out]; exact pinv_bad HI.out HQL.out HH.out.1 HH.out.2 (.inr (.inl HOK.out))
                subst hPe
                go_wp2_with (first
                  | (go_at_call 46; refine (HN.out _ (Fr.refl f1.ok)).mono ?_; rintro e w2 ⟨A2, c2, rfl, S2, hc2, q⟩; replace l0 := q.cell l0; replace l1 := q.cell l1; replace l2 := q.cell l2; replace l3 := q.cell l3; replace l4 := q.cell l4; replace l5 := q.cell l5)
                  | (go_at_call 47; refine (HG.out _ q).mono ?_; rintro e w3 ⟨rfl, q3⟩))
                go_ret2
                exact ⟨_, rfl, OwnB.nil _ _, ((HF.out.trans f1).trans q).trans q3⟩
              | true =>
                have hnk := names_R HNS.out
                rcases Nat.eq_zero_or_pos i with hi0 | hi0
                · subst hi0
                  simp only [Nat.zero_mul, Nat.add_zero] at b0 b1 b2 b3 b4 b5
                  have hlx : x = l := by simpa using HQL.out
                  have hnx := pinv_first HI.out HH.out.2 (by rw [hlx]; exact HOK.out)
                  obtain rfl := hnx.2
                  have hnx := hnx.1
                  have HNX := Lib.hid hnx
                  clear hnx hlx
                  go_wp2_with (first
                    | (go_at_call 46; refine (HN.out _ (Fr.refl f1.ok)).mono ?_; rintro e w2 ⟨A2, c2, rfl, S2, hc2, q⟩; replace l0 := q.cell l0; replace l1 := q.cell l1; replace l2 := q.cell l2; replace l3 := q.cell l3; replace l4 := q.cell l4; replace l5 := q.cell l5)
                    | (go_at_call 47; refine (HG.out _ q).mono ?_; rintro e w3 ⟨rfl, q3⟩))
                  have fall := ((HF.out.trans f1).trans q).trans q3
                  have fr3 := (f1.trans q).trans q3
                  go_roundg k
                  case measure => omega
                  case rel =>
                    refine ⟨1, ys, a, d, [], na, nc, true, by omega, rfl, rfl, by go_num, by simp, by simp, HNX, Lib.hid (OwnB.fr HO.out fr3), Lib.hid (fun i hi => by cases hi), Lib.hid fall, HB, Lib.hid ?_⟩
                    have := HL.out
                    simp at this
                    refine ⟨this.1, ?_⟩
                    simp
                    omega
                · have d8 : ¬ ((i : Int) = 0) := by omega
                  obtain ⟨j, hj⟩ : ∃ j, j + 1 = i := ⟨i - 1, by omega⟩
                  have e8 : IntKind.i64.wrap ((i : Int) - 1) = (j : Int) := by rw [IntWalk.i64_in _ ⟨by omega, by omega⟩]; omega
                  have d9 : (0 : Int) ≤ (j : Int) := by omega
                  have d10 : (j : Int) < (n : Int) := by omega
                  obtain ⟨m, hm⟩ : ∃ m, ns.length = m := ⟨_, rfl⟩
                  rw [hm] at HN
                  have hm64 : m ≤ 64 := by
                    rw [← hm, ← hnk.2]
                    cases hq : namesP l.path.data.toList with
                    | none => simp
                    | some q => exact (namesP_good hq).2.2.1
                  have HFo : Hid (∀ W A2 c2, Fr w1 W → SRow W A2 ns → m ≤ c2 → Calls Tryd.prog 48 #[.slice na ahead.length nc, .slice A2 m c2] W fun e w' => e = .returned (.tuple #[.int .i64 ((sharedX ahead ns : Nat) : Int), .bool (behindX ltB ahead ns)]) ∧ Fr W w') := Lib.hid (fun W A2 c2 q s h => by
                    have := follows_any na A2 nc c2 ahead ns (by omega) (by omega) W q.ok (HS.out.fr (f1.trans q)) hnc s (by rw [hm]; exact h)
                    rwa [hm] at this)
                  obtain ⟨sh, hsh⟩ : ∃ s, sharedX ahead ns = s := ⟨_, rfl⟩
                  obtain ⟨bh, hbh⟩ : ∃ s, behindX ltB ahead ns = s := ⟨_, rfl⟩
                  rw [hsh, hbh] at HFo
                  have e9 : IntKind.i64.wrap ((m : Int) - 1) = (m : Int) - 1 := IntWalk.i64_in _ ⟨by omega, by omega⟩
                  have hshl := shared_le ahead ns
                  have HM := Lib.hid hm
                  have HJ := Lib.hid hj
                  have HSB := Lib.hid (And.intro hsh hbh)
                  obtain ⟨⟨lj, vj⟩, hqj⟩ : ∃ q, ((x, pv) :: tl)[j]? = some q := ⟨_, List.getElem?_eq_getElem (by omega)⟩
                  have cj := (HF.out.trans f1).cell (HCell.out j _ hqj 1 _ rfl)
                  have hdir : dir = decide (lj.ty = 2) := by
                    rcases HI.out with ⟨h0, _⟩ | ⟨_, _, _, _, h6⟩
                    · omega
                    · rw [h6, show i - 1 = j by omega]
                      have h7 := congrArg (Option.map Prod.fst) hqj
                      rw [← List.getElem?_map] at h7
                      have h8 : (x :: tl.map Prod.fst)[j]? = some lj := by simpa using h7
                      rw [List.getD, h8]
                      rfl
                  have hstep : stepX ltB ahead dir (nmL l) = (bh && decide (m - 1 ≤ sh) && (decide (m - 1 ≠ ahead.length) || decide (lj.ty = 2))) := by
                    have e : nmL l = ns := hnk.2
                    unfold stepX
                    rw [e, hbh, hsh, hm, hdir]
                  have HStep := Lib.hid hstep
                  clear hm hj hsh hbh hqj hdir hstep
                  have hno : ∀ (h : stepX ltB ahead dir (nmL l) = false), PP = ([], 191) := fun h => by rw [← HPP.out]; exact pinv_bad HI.out HQL.out HH.out.1 HH.out.2 (.inr (.inr ⟨hi0, h⟩))
                  have HNo := Lib.hid hno
                  clear hno
                  cases bh with
                  | false =>
                    obtain rfl := HNo.out (by rw [HStep.out]; rfl)
                    go_wp2_with (first
                      | (go_at_call 46; refine (HN.out _ (Fr.refl f1.ok)).mono ?_; rintro e w2 ⟨A2, c2, rfl, S2, hc2, q⟩; replace l0 := q.cell l0; replace l1 := q.cell l1; replace l2 := q.cell l2; replace l3 := q.cell l3; replace l4 := q.cell l4; replace l5 := q.cell l5)
                      | (go_at_call 47; refine (HG.out _ q).mono ?_; rintro e w3 ⟨rfl, q3⟩)
                      | (go_at_call 48; refine (HFo.out _ A2 c2 (q.trans q3) (S2.fr q3) hc2).mono ?_; rintro e w4 ⟨rfl, q4⟩))
                    go_ret2
                    exact ⟨_, rfl, OwnB.nil _ _, (((HF.out.trans f1).trans q).trans q3).trans q4⟩
                  | true =>
                    have hne : ns ≠ [] := behind_ne ltB HSB.out.2
                    obtain ⟨u, hu⟩ : ∃ u, u + 1 = m := ⟨m - 1, by have := HM.out; have := List.length_pos_iff.mpr hne; omega⟩
                    replace e9 : IntKind.i64.wrap ((m : Int) - 1) = (u : Int) := by rw [e9]; omega
                    have hu1 : m - 1 = u := by omega
                    rw [hu1] at HStep
                    have HU := Lib.hid hu
                    clear hu hu1
                    by_cases k1 : sh < u
                    · obtain rfl := HNo.out (by rw [HStep.out, decide_eq_false (by omega : ¬ u ≤ sh)]; rfl)
                      have k1' : (sh : Int) < (u : Int) := by omega
                      go_wp2_with (first
                        | (go_at_call 46; refine (HN.out _ (Fr.refl f1.ok)).mono ?_; rintro e w2 ⟨A2, c2, rfl, S2, hc2, q⟩; replace l0 := q.cell l0; replace l1 := q.cell l1; replace l2 := q.cell l2; replace l3 := q.cell l3; replace l4 := q.cell l4; replace l5 := q.cell l5)
                        | (go_at_call 47; refine (HG.out _ q).mono ?_; rintro e w3 ⟨rfl, q3⟩)
                        | (go_at_call 48; refine (HFo.out _ A2 c2 (q.trans q3) (S2.fr q3) hc2).mono ?_; rintro e w4 ⟨rfl, q4⟩))
                      go_ret2
                      exact ⟨_, rfl, OwnB.nil _ _, (((HF.out.trans f1).trans q).trans q3).trans q4⟩
                    · have k1' : (u : Int) ≤ (sh : Int) := by omega
                      have hpiece : Hid (∀ W A2 c2, Fr w1 W → SRow W A2 ns → m ≤ c2 → okL l = true → Calls Tryd.prog 49 #[.slice a ys.length d, .agg #[.string l.path, .int .i64 l.ty, .int .i64 l.mode, .int .u64 l.stamp, .slice da l.data.length dd, .string l.tgt], .slice A2 m c2] W fun e w' => ∃ a' d', e = .returned (.slice a' (ys ++ pieceB l ns).length d') ∧ OwnB w' w.heap.size (.slice a' (ys ++ pieceB l ns).length d') (ys ++ pieceB l ns) ∧ W.grownBy w' (Value.slice a ys.length d).ownBlock ∧ Ownish W (Value.slice a ys.length d).ownBlock (Value.slice a' (ys ++ pieceB l ns).length d').ownBlock) := Lib.hid (fun W A2 c2 q s h hk => by
                        have f := HF.out.trans (f1.trans q)
                        have := piece_any w.heap.size a d ys l da dd ns A2 c2 W q.ok (OwnB.fr HO.out (f1.trans q)) f.size hB0 (hBD.fr f) hdd (fun a' e => by
                          unfold datA at e
                          split at e
                          · cases e
                          · rename_i h0
                            rcases hBD with hBD | ⟨gd, od, e2, hgd, _⟩
                            · exact absurd hBD h0
                            · rw [e2] at e; injection e with e; subst e; exact hgd) hdn s.off hne (by rw [HM.out]; exact hm64) (by rw [HM.out]; exact h) hk (hst _ hmem) (by
                          have e : (namesP l.path.data.toList) = some ns := by
                            have h1 := hnk.1; have h2 := hnk.2
                            cases hq : namesP l.path.data.toList with
                            | none => rw [hq] at h1; cases h1
                            | some q => rw [hq] at h2; rw [← h2]; rfl
                          have hg := (namesP_good e).2.1
                          have hl : ns.getLastD ⟨#[]⟩ ∈ ns := by
                            rw [List.getLastD_eq_getLast?, List.getLast?_eq_some_getLast hne]
                            exact List.getLast_mem hne
                          exact (nameB_all (hg _ hl)).2.2.2.1) (by
                          have h1 := HL.out.2
                          have h2 : ((((x, pv) :: tl).take i).map fun p => G p.1).sum ≤ (((x, pv) :: tl).map fun p => G p.1).sum := by
                            conv => rhs; rw [← List.take_append_drop i ((x, pv) :: tl)]
                            rw [List.map_append, List.sum_append]
                            omega
                          omega)
                        rwa [HM.out] at this)
                      obtain ⟨zs, hzs⟩ : ∃ z, ys ++ pieceB l ns = z := ⟨_, rfl⟩
                      rw [hzs] at hpiece
                      have HZs := Lib.hid hzs
                      clear hzs
                      by_cases k2 : u = ahead.length
                      · subst k2
                        by_cases k3 : lj.ty = 2
                        · have k3' : (lj.ty != 2) = false := by simp [k3]
                          have HK := Lib.hid (And.intro k1 k3)
                          clear k3 k1
                          go_wp2_with (first
                            | (go_at_call 46; refine (HN.out _ (Fr.refl f1.ok)).mono ?_; rintro e w2 ⟨A2, c2, rfl, S2, hc2, q⟩; replace l0 := q.cell l0; replace l1 := q.cell l1; replace l2 := q.cell l2; replace l3 := q.cell l3; replace l4 := q.cell l4; replace l5 := q.cell l5; replace cj := q.cell cj)
                            | (go_at_call 47; refine (HG.out _ q).mono ?_; rintro e w3 ⟨rfl, q3⟩; replace l0 := q3.cell l0; replace l1 := q3.cell l1; replace l2 := q3.cell l2; replace l3 := q3.cell l3; replace l4 := q3.cell l4; replace l5 := q3.cell l5; replace cj := q3.cell cj)
                            | (go_at_call 48; refine (HFo.out _ A2 c2 (q.trans q3) (S2.fr q3) hc2).mono ?_; rintro e w4 ⟨rfl, q4⟩; replace l0 := q4.cell l0; replace l1 := q4.cell l1; replace l2 := q4.cell l2; replace l3 := q4.cell l3; replace l4 := q4.cell l4; replace l5 := q4.cell l5; replace cj := q4.cell cj)
                            | (go_at_call 49; refine (hpiece.out _ A2 c2 ((q.trans q3).trans q4) ((S2.fr q3).fr q4) hc2 HOK.out).mono ?_; rintro e w5 ⟨a5, d5, rfl, O5, q5, i5⟩))
                          have fall := HF.out.trans (f1.trans ((q.trans q3).trans q4))
                          have fr4 := f1.trans ((q.trans q3).trans q4)
                          have O4 := OwnB.fr HO.out fr4
                          have hyp := HL.out.1
                          have S5 : SRow w5 A2 ns := SRow.grown ((S2.fr q3).fr q4) O4 (by omega) q5
                          have f5 : Fr w w5 := Fr.row fall hw q5 (fun k e => (World.ownsRow.lt O4 k e).1)
                          have hnm : nmL l = ns := hnk.2
                          have hsome : (namesP l.path.data.toList) = some ns := by
                            have h1 := hnk.1; have h2 := hnk.2
                            cases hq : namesP l.path.data.toList with
                            | none => rw [hq] at h1; cases h1
                            | some q => rw [hq] at h2; rw [← h2]; rfl
                          have hlast : (ns.getLastD ⟨#[]⟩).size ≤ 63 := by
                            have hg := (namesP_good hsome).2.1
                            have hl : ns.getLastD ⟨#[]⟩ ∈ ns := by
                              rw [List.getLastD_eq_getLast?, List.getLast?_eq_some_getLast hne]
                              exact List.getLast_mem hne
                            exact (nameB_all (hg _ hl)).2.2.2.1
                          have hpk := piece_ok HOK.out (hbd _ hmem) (by rw [HM.out]; exact hm64) hlast
                          have hnext : PInv x (tl.map Prod.fst) (i + 1) zs ns (decide (l.ty = 2)) := by
                            have h9 := HI.out
                            have hql := HQL.out
                            rw [← HJ.out] at h9 hql ⊢
                            have := pinv_next h9 hql hnk.1 HOK.out (by rw [HStep.out]; rw [decide_eq_true (by have := HK.out.1; omega), decide_eq_true HK.out.2]; simp)
                            rw [hnm, HZs.out] at this
                            exact this
                          have hlen2 : 15 ≤ zs.length ∧ zs.length ≤ 15 + ((((x, pv) :: tl).take (i + 1)).map fun p => G p.1).sum := by
                            have h1 := HL.out
                            have h2 : ((x, pv) :: tl).take (i + 1) = ((x, pv) :: tl).take i ++ [(l, .slice da l.data.length dd)] := by
                              have h3 := HQ.out
                              rw [List.take_add_one, h3]
                              rfl
                            rw [h2, List.map_append, List.sum_append, ← HZs.out, List.length_append]
                            have h4 : (pieceB l ns).length ≤ G l := by have h5 := hG _ hmem HOK.out hnk.1 (by rw [hnm]; exact hne); rw [hnm] at h5; exact h5
                            simp only [List.map_cons, List.map_nil, List.sum_cons, List.sum_nil]
                            omega
                          have HB5 : bytesOk zs := by rw [← HZs.out]; exact bytesOk_app HB.out hpk.1
                          have HR5 := Lib.hid (And.intro hnext (And.intro O5 (And.intro S5 (And.intro f5 (And.intro HB5 hlen2)))))
                          clear hnext O5 S5 f5 HB5 hlen2 hpk hlast hsome hnm O4 fr4 fall q5 i5
                          go_roundg k
                          case measure => omega
                          case rel =>
                            obtain ⟨z1, z2, z3, z4, z5, z6⟩ := HR5.out
                            exact ⟨i + 1, zs, a5, d5, ns, A2, c2, decide (l.ty = 2), by omega, rfl, by rw [HM.out], by go_num, by rw [HM.out]; exact hc2, by rw [HM.out]; exact hm64, Lib.hid z1, Lib.hid z2, Lib.hid z3, Lib.hid z4, Lib.hid z5, Lib.hid z6⟩
                        · have k3' : (lj.ty != 2) = true := by simp [k3]
                          obtain rfl := HNo.out (by rw [HStep.out, decide_eq_false k3]; simp)
                          clear k3
                          go_wp2_with (first
                            | (go_at_call 46; refine (HN.out _ (Fr.refl f1.ok)).mono ?_; rintro e w2 ⟨A2, c2, rfl, S2, hc2, q⟩; replace l0 := q.cell l0; replace l1 := q.cell l1; replace l2 := q.cell l2; replace l3 := q.cell l3; replace l4 := q.cell l4; replace l5 := q.cell l5; replace cj := q.cell cj)
                            | (go_at_call 47; refine (HG.out _ q).mono ?_; rintro e w3 ⟨rfl, q3⟩; replace l0 := q3.cell l0; replace l1 := q3.cell l1; replace l2 := q3.cell l2; replace l3 := q3.cell l3; replace l4 := q3.cell l4; replace l5 := q3.cell l5; replace cj := q3.cell cj)
                            | (go_at_call 48; refine (HFo.out _ A2 c2 (q.trans q3) (S2.fr q3) hc2).mono ?_; rintro e w4 ⟨rfl, q4⟩; replace l0 := q4.cell l0; replace l1 := q4.cell l1; replace l2 := q4.cell l2; replace l3 := q4.cell l3; replace l4 := q4.cell l4; replace l5 := q4.cell l5; replace cj := q4.cell cj))
                          go_ret2
                          exact ⟨_, rfl, OwnB.nil _ _, (((HF.out.trans f1).trans q).trans q3).trans q4⟩
                      · have k2' : ¬ ((u : Int) = (ahead.length : Int)) := by omega
                        have HK := Lib.hid (And.intro k1 k2)
                        clear k1 k2
                        go_wp2_with (first
                          | (go_at_call 46; refine (HN.out _ (Fr.refl f1.ok)).mono ?_; rintro e w2 ⟨A2, c2, rfl, S2, hc2, q⟩; replace l0 := q.cell l0; replace l1 := q.cell l1; replace l2 := q.cell l2; replace l3 := q.cell l3; replace l4 := q.cell l4; replace l5 := q.cell l5; replace cj := q.cell cj)
                          | (go_at_call 47; refine (HG.out _ q).mono ?_; rintro e w3 ⟨rfl, q3⟩; replace l0 := q3.cell l0; replace l1 := q3.cell l1; replace l2 := q3.cell l2; replace l3 := q3.cell l3; replace l4 := q3.cell l4; replace l5 := q3.cell l5; replace cj := q3.cell cj)
                          | (go_at_call 48; refine (HFo.out _ A2 c2 (q.trans q3) (S2.fr q3) hc2).mono ?_; rintro e w4 ⟨rfl, q4⟩; replace l0 := q4.cell l0; replace l1 := q4.cell l1; replace l2 := q4.cell l2; replace l3 := q4.cell l3; replace l4 := q4.cell l4; replace l5 := q4.cell l5; replace cj := q4.cell cj)
                          | (go_at_call 49; refine (hpiece.out _ A2 c2 ((q.trans q3).trans q4) ((S2.fr q3).fr q4) hc2 HOK.out).mono ?_; rintro e w5 ⟨a5, d5, rfl, O5, q5, i5⟩))
                        have fall := HF.out.trans (f1.trans ((q.trans q3).trans q4))
                        have fr4 := f1.trans ((q.trans q3).trans q4)
                        have O4 := OwnB.fr HO.out fr4
                        have hyp := HL.out.1
                        have S5 : SRow w5 A2 ns := SRow.grown ((S2.fr q3).fr q4) O4 (by omega) q5
                        have f5 : Fr w w5 := Fr.row fall hw q5 (fun k e => (World.ownsRow.lt O4 k e).1)
                        have hnm : nmL l = ns := hnk.2
                        have hsome : (namesP l.path.data.toList) = some ns := by
                          have h1 := hnk.1; have h2 := hnk.2
                          cases hq : namesP l.path.data.toList with
                          | none => rw [hq] at h1; cases h1
                          | some q => rw [hq] at h2; rw [← h2]; rfl
                        have hlast : (ns.getLastD ⟨#[]⟩).size ≤ 63 := by
                          have hg := (namesP_good hsome).2.1
                          have hl : ns.getLastD ⟨#[]⟩ ∈ ns := by
                            rw [List.getLastD_eq_getLast?, List.getLast?_eq_some_getLast hne]
                            exact List.getLast_mem hne
                          exact (nameB_all (hg _ hl)).2.2.2.1
                        have hpk := piece_ok HOK.out (hbd _ hmem) (by rw [HM.out]; exact hm64) hlast
                        have hnext : PInv x (tl.map Prod.fst) (i + 1) zs ns (decide (l.ty = 2)) := by
                          have h9 := HI.out
                          have hql := HQL.out
                          rw [← HJ.out] at h9 hql ⊢
                          have := pinv_next h9 hql hnk.1 HOK.out (by rw [HStep.out]; rw [decide_eq_true (by have := HK.out.1; omega), decide_eq_true HK.out.2]; rfl)
                          rw [hnm, HZs.out] at this
                          exact this
                        have hlen2 : 15 ≤ zs.length ∧ zs.length ≤ 15 + ((((x, pv) :: tl).take (i + 1)).map fun p => G p.1).sum := by
                          have h1 := HL.out
                          have h2 : ((x, pv) :: tl).take (i + 1) = ((x, pv) :: tl).take i ++ [(l, .slice da l.data.length dd)] := by
                            have h3 := HQ.out
                            rw [List.take_add_one, h3]
                            rfl
                          rw [h2, List.map_append, List.sum_append, ← HZs.out, List.length_append]
                          have h4 : (pieceB l ns).length ≤ G l := by have h5 := hG _ hmem HOK.out hnk.1 (by rw [hnm]; exact hne); rw [hnm] at h5; exact h5
                          simp only [List.map_cons, List.map_nil, List.sum_cons, List.sum_nil]
                          omega
                        have HB5 : bytesOk zs := by rw [← HZs.out]; exact bytesOk_app HB.out hpk.1
                        have HR5 := Lib.hid (And.intro hnext (And.intro O5 (And.intro S5 (And.intro f5 (And.intro HB5 hlen2)))))
                        clear hnext O5 S5 f5 HB5 hlen2 hpk hlast hsome hnm O4 fr4 fall q5 i5
                        go_roundg k
                        case measure => omega
                        case rel =>
                          obtain ⟨z1, z2, z3, z4, z5, z6⟩ := HR5.out
                          exact ⟨i + 1, zs, a5, d5, ns, A2, c2, decide (l.ty = 2), by omega, rfl, by rw [HM.out], by go_num, by rw [HM.out]; exact hc2, by rw [HM.out]; exact hm64, Lib.hid z1, Lib.hid z2, Lib.hid z3, Lib.hid z4, Lib.hid z5, Lib.hid z6⟩
      · have hPe : PP = ([], 190) := by rw [← HPP.out]; exact packX_head (fun e => ht2 e.2)
        subst hPe
        have d2 : (x.ty != 2) = true := by simp [ht2]
        clear hp47
        go_enter Tryd.func21, Tryd.ntmps21
        go_wp2_with fail
        exact ⟨rfl, _, results_tmp2 rfl _ _ _, _, rfl, OwnB.nil _ _, Fr.refl hw⟩
theorem pack_any (A : Option Addr) (c : Nat) (tv : List (Lf × Value)) (w : World) (hw : Ok w) (hT : LAt w A tv) (hc : tv.length ≤ c) (hn : tv.length ≤ 16777216) (hs : ∀ p ∈ tv, p.1.path.size ≤ 1048575) (hst : ∀ p ∈ tv, 0 ≤ p.1.stamp ∧ p.1.stamp ≤ 18446744073709551615)
    (hW : (tv.map fun p => 256 + 6 * p.1.data.length).sum ≤ 536870912) (hbd : ∀ p ∈ tv, bytesOk p.1.data) (hB0 : 0 < w.heap.size) :
    Calls Tryd.prog 21 #[.slice A tv.length c] w fun e w' => ∃ v, e = .returned (.tuple #[v, .int .i64 (packX (tv.map Prod.fst)).2]) ∧ OwnB w' w.heap.size v (packX (tv.map Prod.fst)).1 ∧ Fr w w' :=
  pack_anyG (fun l => 256 + 6 * l.data.length) A c tv w hw hT hc (by omega) hs hst (fun p hp h1 h2 h3 => by
    have h4 : namesP p.1.path.data.toList = some (nmL p.1) := by
      unfold nmL
      cases hq : namesP p.1.path.data.toList with
      | none => rw [hq] at h2; cases h2
      | some q => rfl
    have hg := namesP_good h4
    have hl : (nmL p.1).getLastD ⟨#[]⟩ ∈ nmL p.1 := by
      rw [List.getLastD_eq_getLast?, List.getLast?_eq_some_getLast h3]
      exact List.getLast_mem h3
    exact (piece_ok h1 (hbd p hp) hg.2.2.1 (nameB_all (hg.2.1 _ hl)).2.2.2.1).2) hW hbd hB0
end Go.Proofs.YtlnaeppbhjmocaaDoor
set_option linter.unusedSimpArgs false
set_option linter.unusedVariables false
namespace Go.Proofs.YtlnaeppbhjmocaaDoor
open Go.RowKit Go.Proofs

/-! ### Numbers and parts of a row -/
theorem leV_le (n : Nat) : ∀ v : Int, 0 ≤ v → v < 256 ^ n → leV (le v n) = v := by
  induction n with
  | zero => intro v h0 h1; simp at h1; simp [le, leV]; omega
  | succ n ih =>
    intro v h0 h1
    have h2 : v / 256 < 256 ^ n := by
      rw [Int.pow_succ] at h1
      exact Int.ediv_lt_of_lt_mul (by decide) h1
    rw [le, leV, ih (v / 256) (Int.ediv_nonneg h0 (by decide)) h2]
    omega
theorem take_at {L bs rest : List Int} {i : Nat} (h : L.drop i = bs ++ rest) (hi : i ≤ L.length) : takeX L bs.length (.ok i) = (bs, .ok (i + bs.length)) ∧ L.drop (i + bs.length) = rest ∧ i + bs.length ≤ L.length := by
  have hl := congrArg List.length h
  rw [List.length_drop, List.length_append] at hl
  refine ⟨?_, ?_, by omega⟩
  · simp only [takeX]
    rw [if_pos (by omega), h, List.take_left]
  · rw [← List.drop_drop, h, List.drop_left]
theorem num_at {L rest : List Int} {i n : Nat} {v low high : Int} (h : L.drop i = le v n ++ rest) (hi : i ≤ L.length) (h0 : 0 ≤ v) (h1 : v < 256 ^ n) (hlo : low ≤ v) (hhi : v ≤ high) : numX L n low high (.ok i) = (v, .ok (i + n)) ∧ L.drop (i + n) = rest ∧ i + n ≤ L.length := by
  obtain ⟨h2, h3, h4⟩ := take_at h hi
  rw [le_length] at h2 h3 h4
  refine ⟨?_, h3, h4⟩
  unfold numX
  rw [h2]
  dsimp only
  rw [leV_le n v h0 h1, if_pos ⟨hlo, hhi⟩]
theorem one_at {L rest : List Int} {i : Nat} {v low high : Int} (h : L.drop i = v :: rest) (hi : i ≤ L.length) (h0 : 0 ≤ v) (h1 : v < 256) (hlo : low ≤ v) (hhi : v ≤ high) : numX L 1 low high (.ok i) = (v, .ok (i + 1)) ∧ L.drop (i + 1) = rest ∧ i + 1 ≤ L.length := by
  refine num_at (n := 1) (by rw [h]; simp only [le, List.cons_append, List.nil_append]; rw [Int.emod_eq_of_lt h0 h1]) hi h0 (by simpa using h1) hlo hhi
theorem str_bytes (s : ByteArray) : strOfNums (bytesI s) = s := by
  apply ByteArray.ext
  unfold strOfNums bytesI
  apply Array.toList_inj.mp
  simp only [List.map_map]
  have : (fun x : Int => UInt8.ofNat x.toNat) ∘ (fun c : UInt8 => (c.toNat : Int)) = id := by
    funext c
    simp
  rw [this, List.map_id]

/-! ### A file's data, cut and read again -/
theorem no16_short (Z : Nat) (r : List Int) (hZ : Z < 16) (hr : no16 r = true) (h0 : r = [] ∨ r.headD 0 ≠ 0) : no16 (List.replicate Z 0 ++ r) = true := by
  have hl : lead0 r = 0 := by
    rcases h0 with e | e
    · rw [e]; rfl
    · cases r with
      | nil => rfl
      | cons x r => rw [lead0, if_neg (by simpa using e)]
  have hlz : ∀ z, lead0 (List.replicate z 0 ++ r) = z := by
    intro z
    induction z with
    | zero => simpa using hl
    | succ z ih => rw [List.replicate_succ, List.cons_append, lead0, if_pos rfl, ih]
  induction Z with
  | zero => simpa using hr
  | succ z ih =>
    rw [List.replicate_succ, List.cons_append, no16, ih (by omega)]
    have := hlz (z + 1)
    rw [List.replicate_succ, List.cons_append] at this
    rw [this]
    simpa using hZ
theorem lead0_zeros (l : List Int) : l.take (lead0 l) = List.replicate (lead0 l) 0 := by
  induction l with
  | nil => simp [lead0]
  | cons x r ih =>
    rw [lead0]
    by_cases h : x = 0
    · rw [if_pos h, List.take_succ_cons, ih, h, List.replicate_succ]
    · rw [if_neg h]; simp
/-- up to the next hole nothing is one; a byte that is none stands ahead of it -/
theorem nhL_full (L : List Int) : ∀ (d k : Nat), k + d = L.length → no16 ((L.drop k).take ((nhL (L.drop k) 0 k).1 - k)) = true ∧ ((nhL (L.drop k) 0 k).1 < L.length → (nhL (L.drop k) 0 k).1 = k ∨ (k < (nhL (L.drop k) 0 k).1 ∧ L.getD ((nhL (L.drop k) 0 k).1 - 1) 0 ≠ 0)) := by
  intro d
  induction d using Nat.strongRecOn with
  | _ d ih =>
  intro k hd
  have hzl := lead0_le (L.drop k)
  rw [List.length_drop] at hzl
  by_cases h16 : 16 ≤ lead0 (L.drop k)
  · rw [nhL_hole _ _ h16]
    refine ⟨by simp [no16], fun _ => .inl rfl⟩
  · rcases lead0_drop (L.drop k) with e | ⟨x, r, e, hx⟩
    · rw [nhL_end _ _ (by omega) e]
      have hlen := congrArg List.length e
      simp at hlen
      refine ⟨?_, fun h => by (have h : k + lead0 (L.drop k) < L.length := h); omega⟩
      show no16 ((L.drop k).take (k + lead0 (L.drop k) - k)) = true
      rw [Nat.add_sub_cancel_left, lead0_zeros]
      have := no16_short (lead0 (L.drop k)) [] (by omega) rfl (.inl rfl)
      simpa using this
    · rw [nhL_next _ _ (by omega) e hx]
      have he2 := e
      rw [List.drop_drop] at he2
      have hlen : k + lead0 (L.drop k) < L.length := by
        have := congrArg List.length he2
        simp at this; omega
      have hr : r = L.drop (k + lead0 (L.drop k) + 1) := by
        rw [List.drop_eq_getElem_cons hlen] at he2
        injection he2 with e1 e2
        exact e2.symm
      have hxe : x = L.getD (k + lead0 (L.drop k)) 0 := by
        rw [List.drop_eq_getElem_cons hlen] at he2
        injection he2 with e1 e2
        simp [List.getD, hlen, e1]
      rw [hr]
      obtain ⟨Z, hZ⟩ : ∃ Z, lead0 (L.drop k) = Z := ⟨_, rfl⟩
      have hlz := lead0_zeros (L.drop k)
      rw [hZ] at hlen hxe e he2 hzl h16 hlz ⊢
      obtain ⟨i1, i2⟩ := ih (d - (Z + 1)) (by omega) (k + Z + 1) (by omega)
      have hb := nhL_bounds (L.drop (k + Z + 1)) 0 (k + Z + 1) (by omega)
      obtain ⟨q, hq⟩ : ∃ q, (nhL (L.drop (k + Z + 1)) 0 (k + Z + 1)).1 = q := ⟨_, rfl⟩
      rw [hq] at i1 i2 hb ⊢
      constructor
      · have hsp : (L.drop k).take (q - k) = List.replicate Z 0 ++ (x :: (L.drop (k + Z + 1)).take (q - (k + Z + 1))) := by
          have h1 : L.drop k = List.replicate Z 0 ++ (x :: L.drop (k + Z + 1)) := by
            rw [← hlz]
            have h2 : x :: L.drop (k + Z + 1) = (L.drop k).drop Z := by rw [e, hr, hZ]
            rw [h2, List.take_append_drop]
          rw [h1, List.take_append, List.length_replicate, List.take_of_length_le (by rw [List.length_replicate]; omega)]
          congr 1
          rw [show q - k - Z = (q - (k + Z + 1)) + 1 by omega, List.take_succ_cons]
        rw [hsp]
        refine no16_short Z _ (by omega) ?_ (.inr (by simpa using hx))
        rw [no16, lead0, if_neg hx, i1]
        rfl
      · intro hlt
        right
        refine ⟨by omega, ?_⟩
        rcases i2 hlt with e3 | ⟨e3, e4⟩
        · rw [e3, Nat.add_sub_cancel]
          rw [← hxe]
          exact hx
        · exact e4
theorem getD_head (L : List Int) (p n : Nat) (h : p < L.length) (hn : 0 < n) : ((L.drop p).take n).headD 1 = L.getD p 0 := by
  obtain ⟨n, rfl⟩ : ∃ m, n = m + 1 := ⟨n - 1, by omega⟩
  rw [List.drop_eq_getElem_cons h, List.take_succ_cons]
  simp [List.getD, h]
theorem getD_last (L : List Int) (p n : Nat) (h : p + n ≤ L.length) (hn : 0 < n) : ((L.drop p).take n).getLastD 1 = L.getD (p + n - 1) 0 := by
  have hl : ((L.drop p).take n).length = n := by rw [List.length_take, List.length_drop]; omega
  rw [List.getLastD_eq_getLast?, List.getLast?_eq_getElem?, hl, List.getElem?_take_of_lt (by omega), List.getElem?_drop, List.getD, show p + (n - 1) = p + n - 1 by omega, List.getElem?_eq_getElem (by omega)]
  rfl
theorem nh_zero (L : List Int) (p : Nat) (h : 0 < lead0 (L.drop p)) (hp : p < L.length) : L.getD p 0 = 0 := by
  rw [List.drop_eq_getElem_cons hp, lead0] at h
  split at h
  · rename_i h0
    simp [List.getD, hp, h0]
  · omega
theorem lead0_next (L : List Int) (p : Nat) (h : p + lead0 (L.drop p) < L.length) : L.getD (p + lead0 (L.drop p)) 0 ≠ 0 := by
  rcases lead0_drop (L.drop p) with e | ⟨x, r, e, hx⟩
  · have := congrArg List.length e
    simp at this; omega
  · rw [List.drop_drop, List.drop_eq_getElem_cons h] at e
    injection e with e1 e2
    intro h0
    apply hx
    rw [← e1]
    simpa [List.getD, h] using h0
theorem dataX_done (L : List Int) (n : Int) (f : Nat) (told : Int) (out : List Int) (last : Int) (i : Nat) (hf : 0 < f) (h : ¬ told < n) : dataX L false n f told out last (.ok i) = (out, .ok i) := by
  obtain ⟨f, rfl⟩ : ∃ m, f = m + 1 := ⟨f - 1, by omega⟩
  rw [dataX, if_neg h]
/-- one hole read -/
theorem dataX_hole (L : List Int) (n : Int) (f : Nat) (told : Int) (out : List Int) (last : Int) (i k : Nat) (rest : List Int) (hd : L.drop i = 0 :: (le (k : Int) 4 ++ rest)) (hi : i ≤ L.length) (hl : last ≠ 0) (h16 : 16 ≤ k) (hk : told + (k : Int) ≤ n) (hk4 : k < 4294967296) :
    dataX L false n (f + 1) told out last (.ok i) = dataX L false n f (told + (k : Int)) (out ++ List.replicate k 0) 0 (.ok (i + 5)) ∧ L.drop (i + 5) = rest ∧ i + 5 ≤ L.length := by
  obtain ⟨a1, a2, a3⟩ := one_at (low := 0) (high := 1) hd hi (by decide) (by decide) (by decide) (by decide)
  obtain ⟨b1, b2, b3⟩ := num_at (n := 4) (low := 16) (high := n - told) a2 a3 (by omega) (by rw [show (256 : Int) ^ 4 = 4294967296 by decide]; omega) (by omega) (by omega)
  refine ⟨?_, b2, b3⟩
  rw [dataX, if_pos (by omega), a1]
  have e1 : orFail (.ok (i + 1)) (decide ((0 : Int) = last)) = .ok (i + 1) := by
    rw [decide_eq_false (fun e => hl e.symm)]; rfl
  simp only [e1, if_true]
  rw [b1]
  simp only [Bool.false_eq_true, if_false, Int.toNat_natCast]
  rw [if_neg (by decide)]
/-- one filled stretch read -/
theorem dataX_full (L : List Int) (n : Int) (f : Nat) (told : Int) (out : List Int) (last : Int) (i : Nat) (bs rest : List Int) (hd : L.drop i = 1 :: (le (bs.length : Int) 4 ++ (bs ++ rest))) (hi : i ≤ L.length) (hl : last ≠ 1) (h1 : 1 ≤ bs.length) (hk : told + (bs.length : Int) ≤ n) (hk4 : bs.length < 4294967296)
    (hF : filledB bs (decide (last = 0)) (decide (told + (bs.length : Int) < n)) = true) :
    dataX L false n (f + 1) told out last (.ok i) = dataX L false n f (told + (bs.length : Int)) (out ++ bs) 1 (.ok (i + 5 + bs.length)) ∧ L.drop (i + 5 + bs.length) = rest ∧ i + 5 + bs.length ≤ L.length := by
  obtain ⟨a1, a2, a3⟩ := one_at (low := 0) (high := 1) hd hi (by decide) (by decide) (by decide) (by decide)
  obtain ⟨b1, b2, b3⟩ := num_at (n := 4) (low := 1) (high := n - told) a2 a3 (by omega) (by rw [show (256 : Int) ^ 4 = 4294967296 by decide]; omega) (by omega) (by omega)
  obtain ⟨c1, c2, c3⟩ := take_at b2 b3
  refine ⟨?_, c2, c3⟩
  rw [dataX, if_pos (by omega), a1]
  have e1 : orFail (.ok (i + 1)) (decide ((1 : Int) = last)) = .ok (i + 1) := by
    rw [decide_eq_false (fun e => hl e.symm)]; rfl
  have e2 : ¬ ((1 : Int) = 0) := by decide
  simp only [e1, if_neg e2]
  rw [b1]
  simp only [Int.toNat_natCast, if_true]
  have c1' : takeX L bs.length (.ok (i + 1 + 4)) = (bs, .ok (i + 1 + 4 + bs.length)) := c1
  rw [c1']
  simp only [hF, Bool.not_true, orFail, Bool.false_eq_true, if_false]
/-- the data read from a place on -/
theorem data_at (L D : List Int) (hD : D.length ≤ 16777216) : ∀ (d f g p i : Nat) (last : Int) (rest : List Int), p + d = D.length → d < f → d ≤ g → L.drop i = (stretS D g p).flatMap (stretB D) ++ rest → i ≤ L.length →
    (last = -1 ∨ (last = 0 ∧ (p < D.length → D.getD p 0 ≠ 0))) → ∃ j, dataX L false (D.length : Int) f (p : Int) (D.take p) last (.ok i) = (D, .ok j) ∧ L.drop j = rest ∧ j ≤ L.length := by
  intro d
  induction d using Nat.strongRecOn with
  | _ d ih =>
  intro f g p i last rest hd hf hg hL hi hlast
  by_cases hp : p < D.length
  · obtain ⟨g, rfl⟩ : ∃ m, g = m + 1 := ⟨g - 1, by omega⟩
    obtain ⟨f, rfl⟩ : ∃ m, f = m + 1 := ⟨f - 1, by omega⟩
    by_cases h16 : 16 ≤ lead0 (D.drop p)
    · have hl := lead0_le (D.drop p)
      rw [List.length_drop] at hl
      have hl0 : last ≠ 0 := by
        rcases hlast with e | ⟨e, h⟩
        · omega
        · exact absurd (nh_zero D p (by omega) hp) (h hp)
      rw [stretS_hole D g p hp h16, List.flatMap_cons, List.append_assoc] at hL
      have hL2 : L.drop i = 0 :: (le ((lead0 (D.drop p) : Nat) : Int) 4 ++ ((stretS D g (p + lead0 (D.drop p))).flatMap (stretB D) ++ rest)) := by
        rw [hL]; simp [stretB]
      obtain ⟨e1, e2, e3⟩ := dataX_hole L (D.length : Int) f (p : Int) (D.take p) last i (lead0 (D.drop p)) _ hL2 hi hl0 h16 (by omega) (by omega)
      have ht : D.take p ++ List.replicate (lead0 (D.drop p)) 0 = D.take (p + lead0 (D.drop p)) := by
        rw [List.take_add, lead0_zeros]
      obtain ⟨j, h1, h2, h3⟩ := ih (d - lead0 (D.drop p)) (by omega) f g (p + lead0 (D.drop p)) (i + 5) 0 rest (by omega) (by omega) (by omega) e2 e3 (.inr ⟨rfl, fun h => lead0_next D p h⟩)
      refine ⟨j, ?_, h2, h3⟩
      rw [e1, ht]
      rw [← h1]
      congr 1
    · have hgt := nhL_gt D p hp (by omega)
      have hb := nhL_bounds (D.drop p) 0 p (by omega)
      rw [List.length_drop] at hb
      have hat := nhL_at D d p hd
      obtain ⟨hfu1, hfu2⟩ := nhL_full D d p hd
      rw [stretS, if_pos hp, if_pos hgt] at hL
      obtain ⟨q, hq⟩ : ∃ q, (nhL (D.drop p) 0 p).1 = q := ⟨_, rfl⟩
      obtain ⟨t, ht⟩ : ∃ t, (nhL (D.drop p) 0 p).2 = t := ⟨_, rfl⟩
      rw [hq] at hgt hb hat hfu1 hfu2
      rw [ht] at hat hb
      rw [hq, ht, List.singleton_append, List.flatMap_cons, List.append_assoc] at hL
      obtain ⟨bs, hbs⟩ : ∃ bs, (D.drop p).take (q - p) = bs := ⟨_, rfl⟩
      have hbl : bs.length = q - p := by rw [← hbs, List.length_take, List.length_drop]; omega
      have hL2 : L.drop i = 1 :: (le (bs.length : Int) 4 ++ (bs ++ (List.flatMap (stretB D) ((if q < t then [(0, q, t - q)] else []) ++ stretS D g t) ++ rest))) := by
        rw [hL]
        simp only [stretB, if_true, hbs, hbl, List.cons_append, List.append_assoc]
        rfl
      have hF : filledB bs (decide (last = 0)) (decide ((p : Int) + (bs.length : Int) < (D.length : Int))) = true := by
        unfold filledB
        rw [← hbs, hfu1]
        have h1 : ((D.drop p).take (q - p)).isEmpty = false := by
          rw [hbs]
          cases bs with
          | nil => simp at hbl; omega
          | cons x r => rfl
        rw [h1, getD_head D p (q - p) hp (by omega), getD_last D p (q - p) (by omega) (by omega)]
        have h2 : (decide (last = 0) && (D.getD p 0 == 0)) = false := by
          rcases hlast with e | ⟨e, h⟩
          · rw [e]; rfl
          · have h5 : (D.getD p 0 == 0) = false := by rw [beq_eq_false_iff_ne]; exact h hp
            rw [h5, Bool.and_false]
        rw [h2]
        have h3 : (decide ((p : Int) + (((D.drop p).take (q - p)).length : Int) < (D.length : Int)) && (D.getD (p + (q - p) - 1) 0 == 0)) = false := by
          by_cases hq2 : q < D.length
          · rcases hfu2 hq2 with e | ⟨_, e⟩
            · omega
            · have h5 : (D.getD (q - 1) 0 == 0) = false := by rw [beq_eq_false_iff_ne]; exact e
              rw [show p + (q - p) - 1 = q - 1 by omega, h5, Bool.and_false]
          · rw [hbs, hbl, decide_eq_false (by omega)]
            rfl
        rw [h3]
        rfl
      obtain ⟨e1, e2, e3⟩ := dataX_full L (D.length : Int) f (p : Int) (D.take p) last i bs _ hL2 hi (by rcases hlast with e | ⟨e, _⟩ <;> omega) (by omega) (by omega) (by omega) hF
      have htk : D.take p ++ bs = D.take q := by
        rw [← hbs, ← List.take_add, show p + (q - p) = q by omega]
      rcases hat with ⟨hq2, ht2⟩ | ⟨hq2, ht2⟩
      · refine ⟨i + 5 + bs.length, ?_, ?_, e3⟩
        · rw [e1, dataX_done _ _ _ _ _ _ _ (by omega) (by omega), htk, hq2, List.take_length]
        · rw [e2, if_neg (by omega), stretS_len D g t (by omega)]
          rfl
      · have hl := lead0_le (D.drop q)
        rw [List.length_drop] at hl
        obtain ⟨f, rfl⟩ : ∃ m, f = m + 1 := ⟨f - 1, by omega⟩
        rw [if_pos (by omega), List.singleton_append, List.flatMap_cons, List.append_assoc] at e2
        have hL3 : L.drop (i + 5 + bs.length) = 0 :: (le ((lead0 (D.drop q) : Nat) : Int) 4 ++ ((stretS D g t).flatMap (stretB D) ++ rest)) := by
          rw [e2]
          have : t - q = lead0 (D.drop q) := by omega
          simp [stretB, this]
        obtain ⟨g1, g2, g3⟩ := dataX_hole L (D.length : Int) f ((p : Int) + (bs.length : Int)) (D.take p ++ bs) 1 (i + 5 + bs.length) (lead0 (D.drop q)) _ hL3 e3 (by decide) hq2 (by omega) (by omega)
        have ht3 : D.take p ++ bs ++ List.replicate (lead0 (D.drop q)) 0 = D.take t := by
          rw [htk, ← lead0_zeros, ← List.take_add, ht2]
        obtain ⟨j, h1, h2, h3⟩ := ih (d - (q - p) - lead0 (D.drop q)) (by omega) f g t (i + 5 + bs.length + 5) 0 rest (by omega) (by omega) (by omega) g2 g3 (.inr ⟨rfl, fun h => by rw [ht2] at h ⊢; exact lead0_next D q h⟩)
        refine ⟨j, ?_, h2, h3⟩
        rw [e1, g1, ht3, ← h1]
        congr 1
        omega
  · have hs : stretS D g p = [] := stretS_len D g p (by omega)
    rw [hs] at hL
    exact ⟨i, by rw [dataX_done _ _ _ _ _ _ _ (by omega) (by omega), List.take_of_length_le (by omega)], by simpa using hL, hi⟩
end Go.Proofs.YtlnaeppbhjmocaaDoor
set_option linter.unusedSimpArgs false
set_option linter.unusedVariables false
namespace Go.Proofs.YtlnaeppbhjmocaaDoor
open Go.RowKit Go.Proofs

theorem bl_tri (x : List UInt8) : ∀ y : List UInt8, Op.bytesLess x y = true → (!(Op.bytesLess y x || y == x)) = true := by
  intro y h
  rw [bl_eq, decide_eq_true_eq] at h
  rw [bl_eq]
  have h1 : ¬ y < x := List.lt_asymm h
  have h2 : y ≠ x := fun e => by subst e; exact List.lt_irrefl _ h
  simp [h1, h2]
/-- behind a path: where they part -/
theorem behind_part {a n : List ByteArray} (h : behindX ltB a n = true) (k : Nat) (hk : k = n.length - 1) (hs : k ≤ sharedX a n) (hka : k < a.length) : ltB (a.getD k ⟨#[]⟩) (n.getLastD ⟨#[]⟩) = true := by
  induction a generalizing n k with
  | nil => simp at hka
  | cons x a ih =>
    cases n with
    | nil => simp [behindX] at h
    | cons y n =>
      simp only [behindX] at h
      simp only [sharedX] at hs
      by_cases hxy : x = y
      · rw [if_pos hxy] at h hs
        have hne := behind_ne ltB h
        obtain ⟨z, n', rfl⟩ : ∃ z n', n = z :: n' := by cases n with
          | nil => exact absurd rfl hne
          | cons z n' => exact ⟨z, n', rfl⟩
        obtain ⟨k, rfl⟩ : ∃ m, k = m + 1 := ⟨k - 1, by simp at hk; omega⟩
        have := ih h k (by simp at hk ⊢; omega) (by omega) (by simp at hka; omega)
        simpa using this
      · rw [if_neg hxy] at h hs
        obtain rfl : k = 0 := by omega
        have : n = [] := List.eq_nil_of_length_eq_zero (by simp at hk; omega)
        subst this
        simpa using h
theorem le_one {v : Int} (h0 : 0 ≤ v) (h1 : v < 256) : le v 1 = [v] := by
  simp only [le]; rw [Int.emod_eq_of_lt h0 h1]
/-- a leaf's piece is read as that leaf -/
theorem leaf_at (L : List Int) (l : Lf) (ns ahead : List ByteArray) (dir : Bool) (i : Nat) (rest : List Int) (hok : okL l = true) (hn : namesP l.path.data.toList = some ns) (hst : 0 ≤ l.stamp ∧ l.stamp ≤ 18446744073709551615)
    (hs : stepX ltB ahead dir ns = true) (hd : L.drop i = pieceB l ns ++ rest) (hi : i ≤ L.length) : ∃ j, leafX gtB L false ahead dir (.ok i) = ((l, ns), .ok j) ∧ L.drop j = rest ∧ j ≤ L.length ∧ i < j := by
  obtain ⟨t1, t3, m0, m1, d1, dnil, gnil, gok⟩ := okL_ty hok
  obtain ⟨hp, hnm, h64, h1023⟩ := namesP_good hn
  simp only [stepX, Bool.and_eq_true, Bool.or_eq_true, decide_eq_true_eq] at hs
  obtain ⟨⟨hb, hsh⟩, hdr⟩ := hs
  have hne := behind_ne ltB hb
  have hpos : 0 < ns.length := List.length_pos_iff.mpr hne
  have hsl := shared_le ahead ns
  obtain ⟨k, hk⟩ : ∃ k, ns.length - 1 = k := ⟨_, rfl⟩
  obtain ⟨nm, hnm'⟩ : ∃ nm, ns.getLastD ⟨#[]⟩ = nm := ⟨_, rfl⟩
  have hlast : ns.getLastD ⟨#[]⟩ = ns.getLast hne := by
    rw [List.getLastD_eq_getLast?, List.getLast?_eq_some_getLast hne]; rfl
  have hmem : nm ∈ ns := by
    rw [← hnm', hlast]
    exact List.getLast_mem hne
  have hnB := hnm nm hmem
  have hsz : 1 ≤ nm.size ∧ nm.size ≤ 63 := by
    have := hnB
    unfold nameB at this
    simp only [Bool.and_eq_true, decide_eq_true_eq] at this
    exact this.1.1.1
  have hns : ahead.take k ++ [nm] = ns := by
    rw [shared_take ahead ns k (by omega), ← hnm', ← hk]
    have := List.dropLast_concat_getLast hne
    rw [List.dropLast_eq_take] at this
    rw [hlast]; exact this
  have hpath : pathOf ns = l.path := bs_ext (by rw [pathOf_data, hp])
  have hpsz : (pathOf ns).size ≤ 1023 := by rw [hpath]; exact h1023
  have hmost : (k : Int) ≤ mostX ahead dir := by
    unfold mostX
    cases dir with
    | true => simp; split <;> omega
    | false =>
      have : k ≠ ahead.length := by
        rcases hdr with e | e
        · omega
        · cases e
      simp; split <;> omega
  unfold pieceB pieceH at hd
  rw [hk, hnm'] at hd
  simp only [List.append_assoc, List.cons_append, List.nil_append] at hd
  obtain ⟨a1, a2, a3⟩ := one_at (low := 0) (high := mostX ahead dir) hd hi (by omega) (by omega) (by omega) hmost
  obtain ⟨b1, b2, b3⟩ := one_at (low := 1) (high := 3) a2 a3 (by omega) (by omega) (by omega) (by omega)
  obtain ⟨c1, c2, c3⟩ := num_at (n := 2) (low := 0) (high := 4095) b2 b3 (by omega) (by rw [show (256 : Int) ^ 2 = 65536 by decide]; omega) (by omega) (by omega)
  obtain ⟨e1, e2, e3⟩ := num_at (n := 8) (low := 0) (high := 18446744073709551615) c2 c3 (by omega) (by rw [show (256 : Int) ^ 8 = 18446744073709551616 by decide]; omega) (by omega) (by omega)
  obtain ⟨f1, f2, f3⟩ := one_at (low := 1) (high := 63) e2 e3 (by omega) (by omega) (by omega) (by omega)
  obtain ⟨g1, g2, g3⟩ := take_at f2 f3
  rw [bytesI_length] at g1 g2 g3
  have hbad : ¬ (nameB nm = false ∨ (k < ahead.length ∧ gtB nm (ahead.getD k ⟨#[]⟩) = false) ∨ 1023 < (pathOf ns).size) := by
    rintro (h | ⟨h, h'⟩ | h)
    · rw [hnB] at h; cases h
    · have := behind_part hb k (by omega) (by omega) h
      rw [hnm'] at this
      unfold ltB at this
      unfold gtB at h'
      rw [bl_tri _ _ this] at h'
      cases h'
    · omega
  unfold leafX
  rw [a1]
  dsimp only
  rw [b1]
  dsimp only
  rw [c1]
  dsimp only
  rw [e1]
  dsimp only
  rw [f1]
  dsimp only
  rw [Int.toNat_natCast, g1]
  dsimp only
  rw [str_bytes, Int.toNat_natCast, hns, if_neg hbad, hpath]
  unfold pieceT at g2
  by_cases ty1 : l.ty = 1
  · rw [if_pos ty1] at g2 ⊢
    unfold cutB at g2
    rw [List.append_assoc] at g2
    obtain ⟨h1, h2, h3⟩ := num_at (n := 4) (low := 0) (high := 16777216) g2 g3 (by omega) (by rw [show (256 : Int) ^ 4 = 4294967296 by decide]; omega) (by omega) (by omega)
    obtain ⟨j, q1, q2, q3⟩ := data_at L l.data d1 l.data.length (l.data.length + 1) l.data.length 0 _ (-1) rest (by omega) (by omega) (by omega) h2 h3 (.inl rfl)
    have hq : dataR L false (l.data.length : Int) (.ok (i + 1 + 1 + 2 + 8 + 1 + nm.size + 4)) = (l.data, .ok j) := by
      unfold dataR
      rw [Int.toNat_natCast]
      exact q1
    refine ⟨j, ?_, q2, q3, ?_⟩
    · rw [h1]
      dsimp only
      rw [hq, ← gnil (by omega)]
    · have h7 := congrArg List.length hd
      have h8 := congrArg List.length q2
      rw [List.length_drop] at h7 h8
      simp only [List.length_cons, List.length_append] at h7
      omega
  · rw [if_neg ty1] at g2 ⊢
    by_cases ty3 : l.ty = 3
    · rw [if_pos ty3] at g2 ⊢
      simp only [List.append_assoc, List.cons_append, List.nil_append] at g2
      have htb := gok ty3
      have htsz : 1 ≤ l.tgt.size ∧ l.tgt.size ≤ 127 := by
        have := htb
        unfold targetB at this
        simp only [Bool.and_eq_true, decide_eq_true_eq] at this
        exact this.1
      obtain ⟨h1, h2, h3⟩ := one_at (low := 1) (high := 127) g2 g3 (by omega) (by omega) (by omega) (by omega)
      obtain ⟨k1, k2, k3⟩ := take_at h2 h3
      rw [bytesI_length] at k1 k2 k3
      refine ⟨_, ?_, k2, k3, by omega⟩
      rw [h1]
      dsimp only
      rw [Int.toNat_natCast, k1]
      dsimp only
      rw [str_bytes, htb, ← dnil ty1]
      rfl
    · rw [if_neg ty3] at g2 ⊢
      refine ⟨_, ?_, by simpa using g2, g3, by omega⟩
      rw [← dnil ty1, ← gnil ty3]
/-! ### A tree -/
theorem drop_head {L : List Int} {i : Nat} {v : Int} {rest : List Int} (h : L.drop i = v :: rest) : i < L.length ∧ L.getD i 0 = v := by
  have hl := congrArg List.length h
  rw [List.length_drop, List.length_cons] at hl
  have hi : i < L.length := by omega
  rw [List.drop_eq_getElem_cons hi] at h
  injection h with h1 h2
  exact ⟨hi, by simp [List.getD, hi, h1]⟩
theorem piece_head (l : Lf) (ns : List ByteArray) : ∃ r, pieceB l ns = ((ns.length - 1 : Nat) : Int) :: r := by
  unfold pieceB pieceH
  exact ⟨_, by simp only [List.append_assoc, List.cons_append, List.nil_append]; rfl⟩
theorem tree_at (L : List Int) (rest : List Int) : ∀ (r : List Lf) (ahead : List ByteArray) (dir : Bool) (i f : Nat) (acc : List Lf), restB ahead dir r = true → (∀ l ∈ r, 0 ≤ l.stamp ∧ l.stamp ≤ 18446744073709551615) → r.length < f →
    L.drop i = r.flatMap (fun x => pieceB x (nmL x)) ++ (255 :: rest) → i ≤ L.length → ∃ j, treeX gtB L false f acc ahead dir (.ok i) = (acc ++ r, .ok j) ∧ L.drop j = 255 :: rest ∧ j ≤ L.length := by
  intro r
  induction r with
  | nil =>
    intro ahead dir i f acc _ _ hf hd hi
    obtain ⟨f, rfl⟩ : ∃ m, f = m + 1 := ⟨f - 1, by omega⟩
    have hd2 : L.drop i = 255 :: rest := by simpa using hd
    obtain ⟨h1, h2⟩ := drop_head hd2
    refine ⟨i, ?_, hd2, hi⟩
    rw [treeX, if_neg (fun e => e.2 h2), List.append_nil]
  | cons l r ih =>
    intro ahead dir i f acc hr hst hf hd hi
    obtain ⟨f, rfl⟩ : ∃ m, f = m + 1 := ⟨f - 1, by omega⟩
    rw [restB, Bool.and_eq_true, Bool.and_eq_true, Bool.and_eq_true] at hr
    obtain ⟨⟨⟨h1, h2⟩, h3⟩, h4⟩ := hr
    have hn : namesP l.path.data.toList = some (nmL l) := by
      unfold nmL
      cases hq : namesP l.path.data.toList with
      | none => rw [hq] at h1; cases h1
      | some ns => rfl
    obtain ⟨_, _, h64, _⟩ := namesP_good hn
    rw [List.flatMap_cons, List.append_assoc] at hd
    obtain ⟨j, e1, e2, e3, e4⟩ := leaf_at L l (nmL l) ahead dir i _ h2 hn (hst l List.mem_cons_self) h3 hd hi
    obtain ⟨q, hq⟩ := piece_head l (nmL l)
    rw [hq, List.cons_append] at hd
    obtain ⟨h5, h6⟩ := drop_head hd
    obtain ⟨j2, g1, g2, g3⟩ := ih (nmL l) (decide (l.ty = 2)) j f (acc ++ [l]) h4 (fun x hx => hst x (List.mem_cons_of_mem _ hx)) (by simp at hf; omega) e2 e3
    refine ⟨j2, ?_, g2, g3⟩
    rw [treeX, if_pos ⟨h5, by rw [h6]; omega⟩, e1]
    dsimp only
    rw [g1]
    simp
def bodyX (x : Lf) (r : List Lf) : List Int := headX x ++ r.flatMap (fun y => pieceB y (nmL y)) ++ [255]
theorem tree_len (r : List Lf) : r.length ≤ (r.flatMap (fun y => pieceB y (nmL y))).length := by
  induction r with
  | nil => simp
  | cons l r ih =>
    obtain ⟨q, hq⟩ := piece_head l (nmL l)
    rw [List.flatMap_cons, List.length_append, hq, List.length_cons, List.length_cons]
    omega
/-- a tree's bytes, and something behind them, read -/
theorem read_pack (crc : List Int → Int) (x : Lf) (r : List Lf) (more : List Int) (hp : x.path.data.toList = [47]) (ht : x.ty = 2) (hok : okL x = true) (hr : restB [] true r = true) (hst : ∀ l ∈ x :: r, 0 ≤ l.stamp ∧ l.stamp ≤ 18446744073709551615) :
    readX crc (bodyX x r ++ le (crc (bodyX x r)) 4 ++ more) = if more = [] then (x :: r, 0) else ([], 190) := by
  obtain ⟨L, hL⟩ : ∃ L, bodyX x r ++ le (crc (bodyX x r)) 4 ++ more = L := ⟨_, rfl⟩
  obtain ⟨C, hC⟩ : ∃ C, crc (bodyX x r) = C := ⟨_, rfl⟩
  obtain ⟨_, _, m0, m1, _, dnil, gnil, _⟩ := okL_ty hok
  have hsx := hst x List.mem_cons_self
  have hroot : rootLf x.mode x.stamp = x := by
    unfold rootLf
    have h1 : x.path = ⟨#[47]⟩ := ByteArray.ext (Array.toList_inj.mp hp)
    have h2 := dnil (by omega)
    have h3 := gnil (by omega)
    cases x
    simp only at h1 h2 h3 ht ⊢
    rw [h1, h2, h3, ht]
  have hlen : (bodyX x r).length + 4 + more.length = L.length := by
    rw [← hL, List.length_append, List.length_append, le_length]
  have h0 : L.drop 0 = [80, 82, 67, 76, 1] ++ (le x.mode 2 ++ (le x.stamp 8 ++ (r.flatMap (fun y => pieceB y (nmL y)) ++ (255 :: (le C 4 ++ more))))) := by
    rw [List.drop_zero, ← hL, hC]
    unfold bodyX headX
    simp only [List.append_assoc, List.cons_append, List.nil_append]
  obtain ⟨a1, a2, a3⟩ := take_at h0 (Nat.zero_le _)
  have hhead : headB L = true := by
    unfold headB
    have h5 : L.take 5 = [80, 82, 67, 76, 1] := by
      have := h0
      rw [List.drop_zero] at this
      rw [this]; rfl
    rw [h5]
    have h6 : 5 ≤ L.length := a3
    simp [h6]
  have a2' : L.drop 5 = le x.mode 2 ++ (le x.stamp 8 ++ (r.flatMap (fun y => pieceB y (nmL y)) ++ (255 :: (le C 4 ++ more)))) := a2
  obtain ⟨b1, b2, b3⟩ := num_at (n := 2) (low := 0) (high := 4095) a2' a3 (by omega) (by rw [show (256 : Int) ^ 2 = 65536 by decide]; omega) (by omega) (by omega)
  obtain ⟨c1, c2, c3⟩ := num_at (n := 8) (low := 0) (high := 18446744073709551615) b2 b3 (by omega) (by rw [show (256 : Int) ^ 8 = 18446744073709551616 by decide]; omega) (by omega) (by omega)
  have hrl := tree_len r
  have hbl : (bodyX x r).length = 15 + (r.flatMap (fun y => pieceB y (nmL y))).length + 1 := by
    unfold bodyX headX
    simp only [List.length_append, le_length, List.length_cons, List.length_nil]
  obtain ⟨j, e1, e2, e3⟩ := tree_at L (le C 4 ++ more) r [] true 15 (L.length + 1) [rootLf x.mode x.stamp] hr (fun l hl => hst l (List.mem_cons_of_mem _ hl)) (by omega) c2 c3
  have e2' : L.drop j = [255] ++ (le C 4 ++ more) := e2
  obtain ⟨f1, f2, f3⟩ := take_at e2' e3
  obtain ⟨g1, g2, g3⟩ := take_at f2 f3
  rw [le_length] at g1 g2 g3
  have hj : j + 1 = (bodyX x r).length := by
    have := congrArg List.length e2
    rw [List.length_drop, List.length_cons, List.length_append, le_length] at this
    omega
  have htree : treeR L (numX L 2 0 4095 (.ok 5)) (numX L 8 0 18446744073709551615 (numX L 2 0 4095 (.ok 5)).2) = (x :: r, .ok j) := by
    rw [b1]
    dsimp only
    rw [c1]
    unfold treeR
    dsimp only
    rw [e1, hroot]
    rfl
  rw [hL]
  unfold readX
  rw [if_pos hhead, htree]
  dsimp only
  have f1' : takeX L 1 (.ok j) = ([255], .ok (j + 1)) := f1
  have g1' : takeX L 4 (.ok (j + 1)) = (le C 4, .ok (j + 1 + 4)) := g1
  rw [endX_E, f1']
  dsimp only
  rw [g1']
  have htk : L.take (j + 1 + 4 - 4) = bodyX x r := by
    rw [Nat.add_sub_cancel, hj, ← hL, List.append_assoc, List.take_left]
  simp only [endE]
  rw [htk, hC, if_pos rfl]
  cases more with
  | nil =>
    rw [if_neg (by simp at hlen; omega), if_pos rfl]
  | cons y m =>
    rw [if_pos (by simp at hlen; omega), if_neg (by simp)]
theorem packX_ok {t : List Lf} {L : List Int} (h : packX t = (L, 0)) : ∃ x r, t = x :: r ∧ x.path.data.toList = [47] ∧ x.ty = 2 ∧ okL x = true ∧ restB [] true r = true ∧ L = bodyX x r ++ le (crcI (bodyX x r)) 4 := by
  cases t with
  | nil => cases h
  | cons x r =>
    unfold packX at h
    dsimp only at h
    split at h
    · rename_i h1
      split at h
      · rename_i h2
        injection h with h3 h4
        exact ⟨x, r, rfl, h1.1, h1.2, h2.1, h2.2, h3.symm⟩
      · injection h with h3 h4; cases h4
    · injection h with h3 h4; cases h4
end Go.Proofs.YtlnaeppbhjmocaaDoor
set_option linter.unusedSimpArgs false
set_option linter.unusedVariables false
namespace Go.Proofs.YtlnaeppbhjmocaaDoor
open Go.RowKit Go.Proofs

theorem OwnB.empty (w : World) (B : Nat) (hB : B ≤ w.heap.size) : OwnB (w.alloc (.cells #[] 5)) B (.slice (some ⟨w.heap.size, 0, none⟩) 0 0) [] := by
  refine ⟨rfl, .inr ⟨w.heap.size, 0, #[], rfl, hB, World.alloc_heap_new w _, Nat.le_refl _, by unfold maxLen; omega, rfl, rfl⟩⟩
set_option maxRecDepth 100000 in
set_option maxHeartbeats 1600000 in
theorem sealed18_any (A : Option Addr) (c : Nat) (L : List Int) (hb : bytesOk L) (hc : L.length ≤ c) (hL : L.length ≤ 1073741824) (hAc : A = none → c = 0) (w : World) (hw : Ok w) (hA : BytesAt w A L) :
    Calls Tryd.prog 25 #[.slice A L.length c] w fun e w' => ∃ a d, e = .returned (.slice a (L ++ le (crcI L) 4).length d) ∧ OwnB w' w.heap.size (.slice a (L ++ le (crcI L) 4).length d) (L ++ le (crcI L) 4) ∧ Fr w w' := by
  have hsum := sum_any A c L hb hc hL w hw hA
  have hcrr := crcI_rg hb
  obtain ⟨cr, hcr⟩ : ∃ cr, crcI L = cr := ⟨_, rfl⟩
  rw [hcr] at hsum hcrr ⊢
  obtain ⟨w1, hw1⟩ : ∃ w1, w.alloc (.cells #[] 5) = w1 := ⟨_, rfl⟩
  obtain ⟨g1, hg1⟩ : ∃ g, w.heap.size = g := ⟨_, rfl⟩
  have O1 := OwnB.empty w w.heap.size (Nat.le_refl _)
  have q1 : w.grownBy w1 none := by rw [← hw1]; exact World.grownBy_alloc _ _ none
  rw [hw1, hg1] at O1
  have f1 := fr_of_grown hw q1
  obtain ⟨v2, w2, hap, O2, q2, i2⟩ := append_row 22 g1 (some ⟨g1, 0, none⟩) 0 [] L A c w1 O1 (hA.fr f1) hAc (by simp; omega) (by have := q1.size; omega)
  rw [List.nil_append] at O2
  simp only [List.length_nil] at hap
  obtain ⟨a2, d2, rfl⟩ := O2.form
  have f2 : Fr w w2 := Fr.row f1 hw q2 (fun k e => by have := (World.ownsRow.lt O1 k e).1; omega)
  obtain ⟨w3, v4, w4, hw3, hap2, O4, q4, i4⟩ := append_lit 22 g1 a2 d2 L (le cr 4) w2 O2 (by rw [le_length]; omega) (by have := f2.size; omega)
  have f4 : Fr w w4 := Fr.row f2 hw q4 (fun k e => by have := (World.ownsRow.lt O2 k e).1; omega)
  obtain ⟨g3, hg3⟩ : ∃ g, w2.heap.size = g := ⟨_, rfl⟩
  rw [hg3, le_length] at hap2
  have hle : le cr 4 = [cr % 256, cr / 256 % 256, cr / 65536 % 256, cr / 16777216] := by
    have h0 : le cr 4 = [cr % 256, cr / 256 % 256, cr / 256 / 256 % 256, cr / 256 / 256 / 256 % 256] := rfl
    rw [h0]
    have h1 : cr / 256 / 256 % 256 = cr / 65536 % 256 := by omega
    have h2 : cr / 256 / 256 / 256 % 256 = cr / 16777216 := by omega
    rw [h1, h2]
  rw [hle] at hw3
  simp only [List.map_cons, List.map_nil] at hw3
  obtain ⟨Z, hZ⟩ : ∃ Z, L ++ le cr 4 = Z := ⟨_, rfl⟩
  rw [hZ] at O4 ⊢
  obtain ⟨a4, d4, rfl⟩ := O4.form
  have HF := Lib.hid (And.intro O4 f4)
  have HSum := Lib.hid hsum
  clear O4 f4 hsum hle hZ O2 f2 q4 i4 q2 i2 O1 f1 q1 hcr
  go_enter Tryd.func25, Tryd.ntmps25
  go_wp2_with (first
    | (go_at_call 40; refine HSum.out.mono ?_; rintro e w7 ⟨rfl, he⟩; replace he := he.symm; subst he)
    | (at_builtin; refine wpList_append_run rfl _ _ 22 22 rfl (by simp [Act.eval]) (by simp [Act.eval]) hap ?_)
    | (at_builtin; refine wpList_append_run rfl _ _ 22 22 rfl (by simp [Act.eval]) (by simp [Act.eval]) hap2 ?_))
  exact ⟨rfl, _, results_tmp rfl _ _ _, a4, d4, rfl, (by rw [hg1]; exact HF.out.1), HF.out.2⟩
end Go.Proofs.YtlnaeppbhjmocaaDoor
set_option linter.unusedSimpArgs false
set_option linter.unusedVariables false
namespace Go.Proofs.YtlnaeppbhjmocaaDoor
open Go.RowKit Go.Proofs Go.Proofs.YtlnaeppbhjmocaaDoorW.PrintWords Go.Proofs.YtlnaeppbhjmocaaDoorW.PrintMore

theorem TreeAt.fr {w w' : World} {B : Nat} {v : Value} {lfs : List Lf} (h : TreeAt w B v lfs) (q : Fr w w') : TreeAt w' B v lfs := by
  obtain ⟨a, tv, c, rfl, h1, h2, h3⟩ := h
  exact ⟨a, tv, c, rfl, h1, own_fr h2 q, h3.fr q⟩
end Go.Proofs.YtlnaeppbhjmocaaDoor
set_option linter.unusedSimpArgs false
set_option linter.unusedVariables false
namespace Go.Proofs.YtlnaeppbhjmocaaDoor
open Go.RowKit Go.Proofs

/-- a tree that was read, and one handed in -/
theorem alike_in {w : World} (hw : Ok w) {B : Nat} {v : Value} {lfs : List Lf} (h : TreeAt w B v lfs) {A : Option Addr} {c : Nat} {tv : List (Lf × Value)} (h' : LAt w A tv) (hc : tv.length ≤ c) (he : tv.map Prod.fst = lfs) (hl : lfs.length ≤ 1099511627776) (hd : ∀ p ∈ tv, p.1.data.length ≤ 1099511627776) :
    Calls Tryd.prog 17 #[v, .slice A tv.length c] w fun e w' => e = .returned (.bool true) ∧ Fr w w' := by
  obtain ⟨a, tv1, c1, rfl, h1, h2, h3⟩ := h
  have l1 : tv1.length = lfs.length := by rw [← h1, List.length_map]
  have l2 : tv.length = lfs.length := by rw [← he, List.length_map]
  have m1 : tv1.map toS = lfs.map toS1 := by rw [← h1, List.map_map]; rfl
  have m2 : tv.map toS = lfs.map toS1 := by rw [← he, List.map_map]; rfl
  obtain ⟨C1, k1⟩ := tree_C h2 h3 (by omega)
  have C2 := h'.toAlike (by omega) hd
  rw [m1] at C1 k1
  rw [m2] at C2
  have hn : (lfs.map toS1).length = lfs.length := List.length_map ..
  have := (Palike.shalelaw18_alike.calls _ a c1 (lfs.map toS1) A c (lfs.map toS1) true w C1 k1 C2 (by omega) (alike_f _ (by omega))).mono fun e w' ⟨he, hb⟩ => (⟨he, Fr.of hw hb⟩ : e = Ending.returned (.bool true) ∧ Fr w w')
  rw [hn] at this
  rw [l1, l2]
  exact this

def headT : List Lf := [⟨⟨#[47]⟩, 2, 493, 0, [], ⟨#[]⟩⟩, ⟨⟨#[47, 97]⟩, 1, 420, 5, [104, 105], ⟨#[]⟩⟩, ⟨⟨#[47, 100]⟩, 2, 493, 0, [], ⟨#[]⟩⟩, ⟨⟨#[47, 100, 47, 108]⟩, 3, 0, 0, [], ⟨#[46, 46, 47, 97]⟩⟩]
def headR : List Lf := [⟨⟨#[47, 97]⟩, 1, 420, 5, [104, 105], ⟨#[]⟩⟩, ⟨⟨#[47, 100]⟩, 2, 493, 0, [], ⟨#[]⟩⟩, ⟨⟨#[47, 100, 47, 108]⟩, 3, 0, 0, [], ⟨#[46, 46, 47, 97]⟩⟩]
def headW : List Int := [80, 82, 67, 76, 1, 237, 1, 0, 0, 0, 0, 0, 0, 0, 0, 0, 1, 164, 1, 5, 0, 0, 0, 0, 0, 0, 0, 1, 97, 2, 0, 0, 0, 1, 2, 0, 0, 0, 104, 105, 0, 2, 237, 1, 0, 0, 0, 0, 0, 0, 0, 0, 1, 100, 1, 3, 0, 0, 0, 0, 0, 0, 0, 0, 0, 0, 1, 108, 4, 46, 46, 47, 97, 255]
theorem head_ok : okL (headT.getD 0 default) = true ∧ restB [] true headR = true := by
  constructor <;> kernel_rfl
theorem head_body : bodyP (headT.getD 0 default) headR = headW := by kernel_rfl
theorem head_eq : headT = headT.getD 0 default :: headR := rfl
theorem head_pack : packX headT = (headW ++ le (crcI headW) 4, 0) := by
  rw [head_eq, packX_good rfl rfl head_ok.1 head_ok.2, head_body]
theorem head_read : readX crcI (headW ++ le (crcI headW) 4) = (headT, 0) := by
  have h := read_pack crcI (headT.getD 0 default) headR [] rfl rfl head_ok.1 head_ok.2 (by decide)
  have e : bodyX (headT.getD 0 default) headR = headW := head_body
  rw [e, List.append_nil, if_pos rfl] at h
  exact h
theorem headW_ok : bytesOk headW := by unfold bytesOk; decide

set_option maxRecDepth 100000 in
set_option maxHeartbeats 6400000 in
theorem heads_any (w : World) (hw : Ok w) (hg : 4 ≤ w.heap.size) :
    Calls Tryd.prog 24 #[] w fun e w' => e = .returned (.bool true) ∧ Fr w w' := by
  have hB0 : 0 < w.heap.size := by omega
  obtain ⟨gk, hgk⟩ : ∃ g, w.heap.size = g := ⟨_, rfl⟩
  have hcv := Lib.run_convert_bytes_const (P := Tryd.prog) w 22 5 #[.int .u8 104, .int .u8 105] 2 2 Tryd.underlying22 Tryd.underlying5
  obtain ⟨wk, hwk⟩ : ∃ wk, w.alloc (.cells #[.int .u8 104, .int .u8 105] 5 ((#[.int .u8 104, .int .u8 105] : Array Value).size, (#[.int .u8 104, .int .u8 105] : Array Value).size + 1)) = wk := ⟨_, rfl⟩
  rw [hwk, hgk] at hcv
  have fk : Fr w wk := by rw [← hwk]; exact (Fr.refl hw).alloc _
  have Hk : wk.heap[gk]? = some (.cells #[.int .u8 104, .int .u8 105] 5 (2, 3)) := by rw [← hwk, ← hgk]; exact heap_alloc_new w _
  have hlk : gk < wk.heap.size := (Array.getElem?_eq_some_iff.1 Hk).1
  clear hwk
  obtain ⟨w2, g2, hg2, hw2, f2, hz2, H2⟩ := boxedN fk.ok #[.string ⟨#[47]⟩, .int .i64 2, .int .i64 493, .int .u64 0, .slice none 0 0, .string ⟨#[]⟩, .string ⟨#[47, 97]⟩, .int .i64 1, .int .i64 420, .int .u64 5, .slice (some ⟨gk, 0, none⟩) 2 2, .string ⟨#[]⟩, .string ⟨#[47, 100]⟩, .int .i64 2, .int .i64 493, .int .u64 0, .slice none 0 0, .string ⟨#[]⟩, .string ⟨#[47, 100, 47, 108]⟩, .int .i64 3, .int .i64 0, .int .u64 0, .slice none 0 0, .string ⟨#[46, 46, 47, 97]⟩] 45
  obtain ⟨w3, g3, hg3, hw3, f3, hz3, H3⟩ := boxedN f2.ok #[.int .u8 80, .int .u8 82, .int .u8 67, .int .u8 76, .int .u8 1, .int .u8 237, .int .u8 1, .int .u8 0, .int .u8 0, .int .u8 0, .int .u8 0, .int .u8 0, .int .u8 0, .int .u8 0, .int .u8 0, .int .u8 0, .int .u8 1, .int .u8 164, .int .u8 1, .int .u8 5, .int .u8 0, .int .u8 0, .int .u8 0, .int .u8 0, .int .u8 0, .int .u8 0, .int .u8 0, .int .u8 1, .int .u8 97, .int .u8 2, .int .u8 0, .int .u8 0, .int .u8 0, .int .u8 1, .int .u8 2, .int .u8 0, .int .u8 0, .int .u8 0, .int .u8 104, .int .u8 105, .int .u8 0, .int .u8 2, .int .u8 237, .int .u8 1, .int .u8 0, .int .u8 0, .int .u8 0, .int .u8 0, .int .u8 0, .int .u8 0, .int .u8 0, .int .u8 0, .int .u8 1, .int .u8 100, .int .u8 1, .int .u8 3, .int .u8 0, .int .u8 0, .int .u8 0, .int .u8 0, .int .u8 0, .int .u8 0, .int .u8 0, .int .u8 0, .int .u8 0, .int .u8 0, .int .u8 1, .int .u8 108, .int .u8 4, .int .u8 46, .int .u8 46, .int .u8 47, .int .u8 97, .int .u8 255] 5
  have f23 := f2.trans f3
  have fw3 := fk.trans f23
  have hBk : BytesAt w3 (some ⟨gk, 0, none⟩) [104, 105] := by
    refine .inr ⟨gk, 0, rfl, Nat.lt_of_lt_of_le hlk f23.size, fun i y hy => f23.cell ?_⟩
    rw [Nat.zero_add]
    refine blk_cell Hk ?_
    have hi : i < 2 := (List.getElem?_eq_some_iff.1 hy).1
    rcases (by omega : i = 0 ∨ i = 1) with rfl | rfl <;> (simp at hy; subst hy; rfl)
  have hBW : BytesAt w3 (some ⟨g3, 0, none⟩) headW := by
    refine .inr ⟨g3, 0, rfl, hz3, fun i y hy => ?_⟩
    rw [Nat.zero_add]
    refine blk_cell H3 ?_
    have h := congrArg (Option.map (Value.int .u8)) hy
    rw [← List.getElem?_map] at h
    simpa [headW] using h
  obtain ⟨tv, htv⟩ : ∃ tv : List (Lf × Value), tv = [(⟨⟨#[47]⟩, 2, 493, 0, [], ⟨#[]⟩⟩, .slice none 0 0), (⟨⟨#[47, 97]⟩, 1, 420, 5, [104, 105], ⟨#[]⟩⟩, .slice (some ⟨gk, 0, none⟩) 2 2), (⟨⟨#[47, 100]⟩, 2, 493, 0, [], ⟨#[]⟩⟩, .slice none 0 0), (⟨⟨#[47, 100, 47, 108]⟩, 3, 0, 0, [], ⟨#[46, 46, 47, 97]⟩⟩, .slice none 0 0)] := ⟨_, rfl⟩
  have htf : tv.map Prod.fst = headT := by rw [htv]; rfl
  have htl : tv.length = 4 := by rw [htv]; rfl
  have hLA : LAt w3 (some ⟨g2, 0, none⟩) tv := by
    rw [htv]
    refine ⟨.inr ⟨g2, 0, rfl, Nat.lt_of_lt_of_le hz2 f3.size, fun i c hi j v hj hv => f3.cell ?_⟩, fun p hp => ?_⟩
    · rw [Nat.zero_add]
      refine blk_cell H2 ?_
      have hi4 : i < 4 := (List.getElem?_eq_some_iff.1 hi).1
      rcases (by omega : i = 0 ∨ i = 1 ∨ i = 2 ∨ i = 3) with rfl | rfl | rfl | rfl <;>
        (simp only [List.map_cons, List.map_nil, List.getElem?_cons_zero, List.getElem?_cons_succ, Option.some.injEq] at hi; subst hi; rcases (by omega : j = 0 ∨ j = 1 ∨ j = 2 ∨ j = 3 ∨ j = 4 ∨ j = 5) with rfl | rfl | rfl | rfl | rfl | rfl <;> exact hv)
    · rcases List.mem_cons.1 hp with rfl | hp
      · exact ⟨none, 0, rfl, .inl rfl, Nat.le_refl _, fun _ => rfl⟩
      · rcases List.mem_cons.1 hp with rfl | hp
        · exact ⟨some ⟨gk, 0, none⟩, 2, rfl, hBk, Nat.le_refl _, fun e => by cases e⟩
        · rcases List.mem_cons.1 hp with rfl | hp
          · exact ⟨none, 0, rfl, .inl rfl, Nat.le_refl _, fun _ => rfl⟩
          · obtain rfl := List.mem_singleton.1 hp
            exact ⟨none, 0, rfl, .inl rfl, Nat.le_refl _, fun _ => rfl⟩
  have hprop : (∀ p ∈ tv, p.1.path.size ≤ 1048575) ∧ (∀ p ∈ tv, 0 ≤ p.1.stamp ∧ p.1.stamp ≤ 18446744073709551615) ∧ (tv.map fun p => 256 + 6 * p.1.data.length).sum ≤ 536870912 ∧ (∀ p ∈ tv, bytesOk p.1.data) := by
    have h : (∀ l ∈ headT, l.path.size ≤ 1048575) ∧ (∀ l ∈ headT, 0 ≤ l.stamp ∧ l.stamp ≤ 18446744073709551615) ∧ (headT.map fun l => 256 + 6 * l.data.length).sum ≤ 536870912 ∧ (∀ l ∈ headT, bytesOk l.data) := by
      refine ⟨by decide, by decide, by decide, by unfold bytesOk; decide⟩
    rw [← htf] at h
    refine ⟨fun p hp => h.1 p.1 (List.mem_map_of_mem hp), fun p hp => h.2.1 p.1 (List.mem_map_of_mem hp), ?_, fun p hp => h.2.2.2 p.1 (List.mem_map_of_mem hp)⟩
    have := h.2.2.1
    rw [List.map_map] at this
    exact this
  have hPk := pack_any (some ⟨g2, 0, none⟩) 4 tv w3 fw3.ok hLA (by omega) (by omega) hprop.1 hprop.2.1 hprop.2.2.1 hprop.2.2.2 (by have := fw3.size; omega)
  rw [htf, head_pack, htl] at hPk
  obtain ⟨RW, hRW⟩ : ∃ R, headW ++ le (crcI headW) 4 = R := ⟨_, rfl⟩
  have hrl : RW.length = 78 := by rw [← hRW, List.length_append, le_length]; rfl
  have hrb : bytesOk RW := by rw [← hRW]; exact bytesOk_app headW_ok (le_mem _ _)
  have hrd := head_read
  rw [hRW] at hPk hrd
  have HSe := Lib.hid (fun W (q : Fr w3 W) => by
    have := sealed18_any (some ⟨g3, 0, none⟩) 74 headW headW_ok (by decide) (by decide) (fun e => by cases e) W q.ok (hBW.fr q)
    rw [hRW] at this
    exact this)
  have HRe := Lib.hid (fun W (q : Fr w3 W) A c (h1 : BytesAt W A RW) (h2 : RW.length ≤ c) => pread_any A c RW W q.ok h1 hrb h2 (by omega) (by have := fw3.size; have := q.size; omega))
  rw [hrd] at HRe
  have HAl := Lib.hid (fun W (v : Value) (B : Nat) (q : Fr w3 W) (h : TreeAt W B v headT) => by
    have := alike_in q.ok h (hLA.fr q) (c := 4) (by omega) htf (by decide) (fun p hp => by
      have h9 : ∀ l ∈ headT, l.data.length ≤ 1099511627776 := by decide
      exact h9 p.1 (by rw [← htf]; exact List.mem_map_of_mem hp))
    rw [htl] at this
    exact this)
  have HPk := Lib.hid hPk
  have HLA := Lib.hid (And.intro hLA (And.intro htf htl))
  have HF := Lib.hid fw3
  have HRL := Lib.hid hrl
  have hE0 : ((0 : Int) != 0) = false := rfl
  clear hPk hLA hRW hrl hrd hprop hBW hBk hrb fw3 htv htf htl
  go_enter Tryd.func24, Tryd.ntmps24
  go_wp2_with (first
    | (go_at_call 21; refine HPk.out.mono ?_; rintro e w4 ⟨v4, rfl, O4, q⟩; go_loud (obtain ⟨a4, d4, rfl⟩ := O4.form))
    | (go_at_call 16; refine (no_any 0 _ q.ok).mono ?_; rintro e w9 ⟨rfl, q9⟩; replace T8' := TreeAt.fr T8' q9; replace q := q.trans q9; clear q9)
    | (go_at_call 16; refine (no_any 0 _ q.ok).mono ?_; rintro e w5 ⟨rfl, q5⟩; replace O4 := OwnB.fr O4 q5; replace q := q.trans q5; clear q5)
    | (go_at_call 25; refine (HSe.out _ q).mono ?_; rintro e w6 ⟨a6, d6, rfl, O6, q6⟩; replace O4 := OwnB.fr O4 q6; replace q := q.trans q6; clear q6)
    | (go_at_call 22; refine (same_true q.ok O4.at.1 O6.at.1 O4.at.2.2 O6.at.2.2 (by have := HRL.out; omega)).mono ?_; rintro e w7 ⟨rfl, q7⟩; replace O4 := OwnB.fr O4 q7; replace q := q.trans q7; clear q7)
    | (go_at_call 15; refine (HRe.out _ q _ _ O4.at.1 O4.at.2.2).mono ?_; rintro e w8 ⟨v8, rfl, q8, T8⟩; replace q := q.trans q8; (obtain ⟨B8, T8'⟩ : ∃ B, TreeAt w8 B v8 headT := ⟨_, T8⟩); clear T8 q8)
    | (go_at_call 17; refine (HAl.out _ _ _ q T8').mono ?_; rintro e w9 ⟨rfl, q9⟩; replace q := q.trans q9; clear q9))
  exact ⟨rfl, _, results_tmp rfl _ _ _, rfl, HF.out.trans q⟩
end Go.Proofs.YtlnaeppbhjmocaaDoor
