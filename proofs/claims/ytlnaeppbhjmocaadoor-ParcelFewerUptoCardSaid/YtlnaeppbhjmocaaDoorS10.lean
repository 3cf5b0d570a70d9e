/- ParcelFewer: for all arguments whose bulk is at most 1048576 the law returns true. The row and its card. -/
import Derived.Test.YtlnaeppbhjmocaaDoorS9
import Derived.Below
import Derived.OpenShut
import Derived.Deep.DeepHandedRow
import Derived.ProofKit
import Derived.Deep.DeepWitnessRowRef
import Derived.MakeChecks
set_option linter.unusedSectionVars false
set_option linter.unnecessarySimpa false
set_option linter.unusedSimpArgs false
set_option linter.unusedVariables false
set_option linter.unusedSimpArgs false
set_option linter.unusedVariables false
namespace Go.Proofs.YtlnaeppbhjmocaaDoor
open Go.RowKit Go.Proofs

theorem bl_tri (x : List UInt8) : ∀ y : List UInt8, Op.bytesLess x y = true → (!(Op.bytesLess y x || y == x)) = true := by
  intro y h
  rw [bl_eq, decide_eq_true_eq] at h
  rw [bl_eq]
  have h1 : ¬ y < x := List.lt_asymm h
  have h2 : y ≠ x := fun e => by subst e; exact List.lt_irrefl _ h
  simp [h1, h2]
/-- behind a path: where they part -/
theorem behind_part {a n : List ByteArray} (h : behindX ltB a n = true) (k : Nat) (hk : k = n.length - 1) (hs : k ≤ sharedX a n) (hka : k < a.length) : ltB (a.getD k ⟨#[]⟩) (n.getLastD ⟨#[]⟩) = true := by
  induction a generalizing n k with
  | nil => simp at hka
  | cons x a ih =>
    cases n with
    | nil => simp [behindX] at h
    | cons y n =>
      simp only [behindX] at h
      simp only [sharedX] at hs
      by_cases hxy : x = y
      · rw [if_pos hxy] at h hs
        have hne := behind_ne ltB h
        obtain ⟨z, n', rfl⟩ : ∃ z n', n = z :: n' := by cases n with
          | nil => exact absurd rfl hne
          | cons z n' => exact ⟨z, n', rfl⟩
        obtain ⟨k, rfl⟩ : ∃ m, k = m + 1 := ⟨k - 1, by simp at hk; omega⟩
        have := ih h k (by simp at hk ⊢; omega) (by omega) (by simp at hka; omega)
        simpa using this
      · rw [if_neg hxy] at h hs
        obtain rfl : k = 0 := by omega
        have : n = [] := List.eq_nil_of_length_eq_zero (by simp at hk; omega)
        subst this
        simpa using h
/-- a leaf's piece is read as that leaf -/
theorem leaf_at (L : List Int) (l : Lf) (ns ahead : List ByteArray) (dir : Bool) (i : Nat) (rest : List Int) (hok : okL l = true) (hn : namesP l.path.data.toList = some ns) (hst : 0 ≤ l.stamp ∧ l.stamp ≤ 18446744073709551615)
    (hs : stepX ltB ahead dir ns = true) (hd : L.drop i = pieceB l ns ++ rest) (hi : i ≤ L.length) : ∃ j, leafX gtB L false ahead dir (.ok i) = ((l, ns), .ok j) ∧ L.drop j = rest ∧ j ≤ L.length ∧ i < j := by
  obtain ⟨t1, t3, m0, m1, d1, dnil, gnil, gok⟩ := okL_ty hok
  obtain ⟨hp, hnm, h64, h1023⟩ := namesP_good hn
  simp only [stepX, Bool.and_eq_true, Bool.or_eq_true, decide_eq_true_eq] at hs
  obtain ⟨⟨hb, hsh⟩, hdr⟩ := hs
  have hne := behind_ne ltB hb
  have hpos : 0 < ns.length := List.length_pos_iff.mpr hne
  have hsl := shared_le ahead ns
  obtain ⟨k, hk⟩ : ∃ k, ns.length - 1 = k := ⟨_, rfl⟩
  obtain ⟨nm, hnm'⟩ : ∃ nm, ns.getLastD ⟨#[]⟩ = nm := ⟨_, rfl⟩
  have hlast : ns.getLastD ⟨#[]⟩ = ns.getLast hne := by
    rw [List.getLastD_eq_getLast?, List.getLast?_eq_some_getLast hne]; rfl
  have hmem : nm ∈ ns := by
    rw [← hnm', hlast]
    exact List.getLast_mem hne
  have hnB := hnm nm hmem
  have hsz : 1 ≤ nm.size ∧ nm.size ≤ 63 := by
    have := hnB
    unfold nameB at this
    simp only [Bool.and_eq_true, decide_eq_true_eq] at this
    exact this.1.1.1
  have hns : ahead.take k ++ [nm] = ns := by
    rw [shared_take ahead ns k (by omega), ← hnm', ← hk]
    have := List.dropLast_concat_getLast hne
    rw [List.dropLast_eq_take] at this
    rw [hlast]; exact this
  have hpath : pathOf ns = l.path := bs_ext (by rw [pathOf_data, hp])
  have hpsz : (pathOf ns).size ≤ 1023 := by rw [hpath]; exact h1023
  have hmost : (k : Int) ≤ mostX ahead dir := by
    unfold mostX
    cases dir with
    | true => simp; split <;> omega
    | false =>
      have : k ≠ ahead.length := by
        rcases hdr with e | e
        · omega
        · cases e
      simp; split <;> omega
  unfold pieceB pieceH at hd
  rw [hk, hnm'] at hd
  simp only [List.append_assoc, List.cons_append, List.nil_append] at hd
  obtain ⟨a1, a2, a3⟩ := one_at (low := 0) (high := mostX ahead dir) hd hi (by omega) (by omega) (by omega) hmost
  obtain ⟨b1, b2, b3⟩ := one_at (low := 1) (high := 3) a2 a3 (by omega) (by omega) (by omega) (by omega)
  obtain ⟨c1, c2, c3⟩ := num_at (n := 2) (low := 0) (high := 4095) b2 b3 (by omega) (by rw [show (256 : Int) ^ 2 = 65536 by decide]; omega) (by omega) (by omega)
  obtain ⟨e1, e2, e3⟩ := num_at (n := 8) (low := 0) (high := 18446744073709551615) c2 c3 (by omega) (by rw [show (256 : Int) ^ 8 = 18446744073709551616 by decide]; omega) (by omega) (by omega)
  obtain ⟨f1, f2, f3⟩ := one_at (low := 1) (high := 63) e2 e3 (by omega) (by omega) (by omega) (by omega)
  obtain ⟨g1, g2, g3⟩ := take_at f2 f3
  rw [bytesI_length] at g1 g2 g3
  have hbad : ¬ (nameB nm = false ∨ (k < ahead.length ∧ gtB nm (ahead.getD k ⟨#[]⟩) = false) ∨ 1023 < (pathOf ns).size) := by
    rintro (h | ⟨h, h'⟩ | h)
    · rw [hnB] at h; cases h
    · have := behind_part hb k (by omega) (by omega) h
      rw [hnm'] at this
      unfold ltB at this
      unfold gtB at h'
      rw [bl_tri _ _ this] at h'
      cases h'
    · omega
  unfold leafX
  rw [a1]
  dsimp only
  rw [b1]
  dsimp only
  rw [c1]
  dsimp only
  rw [e1]
  dsimp only
  rw [f1]
  dsimp only
  rw [Int.toNat_natCast, g1]
  dsimp only
  rw [str_bytes, Int.toNat_natCast, hns, if_neg hbad, hpath]
  unfold pieceT at g2
  by_cases ty1 : l.ty = 1
  · rw [if_pos ty1] at g2 ⊢
    unfold cutB at g2
    rw [List.append_assoc] at g2
    obtain ⟨h1, h2, h3⟩ := num_at (n := 4) (low := 0) (high := 16777216) g2 g3 (by omega) (by rw [show (256 : Int) ^ 4 = 4294967296 by decide]; omega) (by omega) (by omega)
    obtain ⟨j, q1, q2, q3⟩ := data_at L l.data d1 l.data.length (l.data.length + 1) l.data.length 0 _ (-1) rest (by omega) (by omega) (by omega) h2 h3 (.inl rfl)
    have hq : dataR L false (l.data.length : Int) (.ok (i + 1 + 1 + 2 + 8 + 1 + nm.size + 4)) = (l.data, .ok j) := by
      unfold dataR
      rw [Int.toNat_natCast]
      exact q1
    refine ⟨j, ?_, q2, q3, ?_⟩
    · rw [h1]
      dsimp only
      rw [hq, ← gnil (by omega)]
    · have h7 := congrArg List.length hd
      have h8 := congrArg List.length q2
      rw [List.length_drop] at h7 h8
      simp only [List.length_cons, List.length_append] at h7
      omega
  · rw [if_neg ty1] at g2 ⊢
    by_cases ty3 : l.ty = 3
    · rw [if_pos ty3] at g2 ⊢
      simp only [List.append_assoc, List.cons_append, List.nil_append] at g2
      have htb := gok ty3
      have htsz : 1 ≤ l.tgt.size ∧ l.tgt.size ≤ 127 := by
        have := htb
        unfold targetB at this
        simp only [Bool.and_eq_true, decide_eq_true_eq] at this
        exact this.1
      obtain ⟨h1, h2, h3⟩ := one_at (low := 1) (high := 127) g2 g3 (by omega) (by omega) (by omega) (by omega)
      obtain ⟨k1, k2, k3⟩ := take_at h2 h3
      rw [bytesI_length] at k1 k2 k3
      refine ⟨_, ?_, k2, k3, by omega⟩
      rw [h1]
      dsimp only
      rw [Int.toNat_natCast, k1]
      dsimp only
      rw [str_bytes, htb, ← dnil ty1]
      rfl
    · rw [if_neg ty3] at g2 ⊢
      refine ⟨_, ?_, by simpa using g2, g3, by omega⟩
      rw [← dnil ty1, ← gnil ty3]
/-! ### A tree -/
theorem drop_head {L : List Int} {i : Nat} {v : Int} {rest : List Int} (h : L.drop i = v :: rest) : i < L.length ∧ L.getD i 0 = v := by
  have hl := congrArg List.length h
  rw [List.length_drop, List.length_cons] at hl
  have hi : i < L.length := by omega
  rw [List.drop_eq_getElem_cons hi] at h
  injection h with h1 h2
  exact ⟨hi, by simp [List.getD, hi, h1]⟩
theorem piece_head (l : Lf) (ns : List ByteArray) : ∃ r, pieceB l ns = ((ns.length - 1 : Nat) : Int) :: r := by
  unfold pieceB pieceH
  exact ⟨_, by simp only [List.append_assoc, List.cons_append, List.nil_append]; rfl⟩
theorem tree_at (L : List Int) (rest : List Int) : ∀ (r : List Lf) (ahead : List ByteArray) (dir : Bool) (i f : Nat) (acc : List Lf), restB ahead dir r = true → (∀ l ∈ r, 0 ≤ l.stamp ∧ l.stamp ≤ 18446744073709551615) → r.length < f →
    L.drop i = r.flatMap (fun x => pieceB x (nmL x)) ++ (255 :: rest) → i ≤ L.length → ∃ j, treeX gtB L false f acc ahead dir (.ok i) = (acc ++ r, .ok j) ∧ L.drop j = 255 :: rest ∧ j ≤ L.length := by
  intro r
  induction r with
  | nil =>
    intro ahead dir i f acc _ _ hf hd hi
    obtain ⟨f, rfl⟩ : ∃ m, f = m + 1 := ⟨f - 1, by omega⟩
    have hd2 : L.drop i = 255 :: rest := by simpa using hd
    obtain ⟨h1, h2⟩ := drop_head hd2
    refine ⟨i, ?_, hd2, hi⟩
    rw [treeX, if_neg (fun e => e.2 h2), List.append_nil]
  | cons l r ih =>
    intro ahead dir i f acc hr hst hf hd hi
    obtain ⟨f, rfl⟩ : ∃ m, f = m + 1 := ⟨f - 1, by omega⟩
    rw [restB, Bool.and_eq_true, Bool.and_eq_true, Bool.and_eq_true] at hr
    obtain ⟨⟨⟨h1, h2⟩, h3⟩, h4⟩ := hr
    have hn : namesP l.path.data.toList = some (nmL l) := by
      unfold nmL
      cases hq : namesP l.path.data.toList with
      | none => rw [hq] at h1; cases h1
      | some ns => rfl
    obtain ⟨_, _, h64, _⟩ := namesP_good hn
    rw [List.flatMap_cons, List.append_assoc] at hd
    obtain ⟨j, e1, e2, e3, e4⟩ := leaf_at L l (nmL l) ahead dir i _ h2 hn (hst l List.mem_cons_self) h3 hd hi
    obtain ⟨q, hq⟩ := piece_head l (nmL l)
    rw [hq, List.cons_append] at hd
    obtain ⟨h5, h6⟩ := drop_head hd
    obtain ⟨j2, g1, g2, g3⟩ := ih (nmL l) (decide (l.ty = 2)) j f (acc ++ [l]) h4 (fun x hx => hst x (List.mem_cons_of_mem _ hx)) (by simp at hf; omega) e2 e3
    refine ⟨j2, ?_, g2, g3⟩
    rw [treeX, if_pos ⟨h5, by rw [h6]; omega⟩, e1]
    dsimp only
    rw [g1]
    simp
def bodyX (x : Lf) (r : List Lf) : List Int := headX x ++ r.flatMap (fun y => pieceB y (nmL y)) ++ [255]
theorem tree_len (r : List Lf) : r.length ≤ (r.flatMap (fun y => pieceB y (nmL y))).length := by
  induction r with
  | nil => simp
  | cons l r ih =>
    obtain ⟨q, hq⟩ := piece_head l (nmL l)
    rw [List.flatMap_cons, List.length_append, hq, List.length_cons, List.length_cons]
    omega
/-- a tree's bytes, and something behind them, read -/
theorem read_pack (crc : List Int → Int) (x : Lf) (r : List Lf) (more : List Int) (hp : x.path.data.toList = [47]) (ht : x.ty = 2) (hok : okL x = true) (hr : restB [] true r = true) (hst : ∀ l ∈ x :: r, 0 ≤ l.stamp ∧ l.stamp ≤ 18446744073709551615) :
    readX crc (bodyX x r ++ le (crc (bodyX x r)) 4 ++ more) = if more = [] then (x :: r, 0) else ([], 190) := by
  obtain ⟨L, hL⟩ : ∃ L, bodyX x r ++ le (crc (bodyX x r)) 4 ++ more = L := ⟨_, rfl⟩
  obtain ⟨C, hC⟩ : ∃ C, crc (bodyX x r) = C := ⟨_, rfl⟩
  obtain ⟨_, _, m0, m1, _, dnil, gnil, _⟩ := okL_ty hok
  have hsx := hst x List.mem_cons_self
  have hroot : rootLf x.mode x.stamp = x := by
    unfold rootLf
    have h1 : x.path = ⟨#[47]⟩ := ByteArray.ext (Array.toList_inj.mp hp)
    have h2 := dnil (by omega)
    have h3 := gnil (by omega)
    cases x
    simp only at h1 h2 h3 ht ⊢
    rw [h1, h2, h3, ht]
  have hlen : (bodyX x r).length + 4 + more.length = L.length := by
    rw [← hL, List.length_append, List.length_append, le_length]
  have h0 : L.drop 0 = [80, 82, 67, 76, 1] ++ (le x.mode 2 ++ (le x.stamp 8 ++ (r.flatMap (fun y => pieceB y (nmL y)) ++ (255 :: (le C 4 ++ more))))) := by
    rw [List.drop_zero, ← hL, hC]
    unfold bodyX headX
    simp only [List.append_assoc, List.cons_append, List.nil_append]
  obtain ⟨a1, a2, a3⟩ := take_at h0 (Nat.zero_le _)
  have hhead : headB L = true := by
    unfold headB
    have h5 : L.take 5 = [80, 82, 67, 76, 1] := by
      have := h0
      rw [List.drop_zero] at this
      rw [this]; rfl
    rw [h5]
    have h6 : 5 ≤ L.length := a3
    simp [h6]
  have a2' : L.drop 5 = le x.mode 2 ++ (le x.stamp 8 ++ (r.flatMap (fun y => pieceB y (nmL y)) ++ (255 :: (le C 4 ++ more)))) := a2
  obtain ⟨b1, b2, b3⟩ := num_at (n := 2) (low := 0) (high := 4095) a2' a3 (by omega) (by rw [show (256 : Int) ^ 2 = 65536 by decide]; omega) (by omega) (by omega)
  obtain ⟨c1, c2, c3⟩ := num_at (n := 8) (low := 0) (high := 18446744073709551615) b2 b3 (by omega) (by rw [show (256 : Int) ^ 8 = 18446744073709551616 by decide]; omega) (by omega) (by omega)
  have hrl := tree_len r
  have hbl : (bodyX x r).length = 15 + (r.flatMap (fun y => pieceB y (nmL y))).length + 1 := by
    unfold bodyX headX
    simp only [List.length_append, le_length, List.length_cons, List.length_nil]
  obtain ⟨j, e1, e2, e3⟩ := tree_at L (le C 4 ++ more) r [] true 15 (L.length + 1) [rootLf x.mode x.stamp] hr (fun l hl => hst l (List.mem_cons_of_mem _ hl)) (by omega) c2 c3
  have e2' : L.drop j = [255] ++ (le C 4 ++ more) := e2
  obtain ⟨f1, f2, f3⟩ := take_at e2' e3
  obtain ⟨g1, g2, g3⟩ := take_at f2 f3
  rw [le_length] at g1 g2 g3
  have hj : j + 1 = (bodyX x r).length := by
    have := congrArg List.length e2
    rw [List.length_drop, List.length_cons, List.length_append, le_length] at this
    omega
  have htree : treeR L (numX L 2 0 4095 (.ok 5)) (numX L 8 0 18446744073709551615 (numX L 2 0 4095 (.ok 5)).2) = (x :: r, .ok j) := by
    rw [b1]
    dsimp only
    rw [c1]
    unfold treeR
    dsimp only
    rw [e1, hroot]
    rfl
  rw [hL]
  unfold readX
  rw [if_pos hhead, htree]
  dsimp only
  have f1' : takeX L 1 (.ok j) = ([255], .ok (j + 1)) := f1
  have g1' : takeX L 4 (.ok (j + 1)) = (le C 4, .ok (j + 1 + 4)) := g1
  rw [endX_E, f1']
  dsimp only
  rw [g1']
  have htk : L.take (j + 1 + 4 - 4) = bodyX x r := by
    rw [Nat.add_sub_cancel, hj, ← hL, List.append_assoc, List.take_left]
  simp only [endE]
  rw [htk, hC, if_pos rfl]
  cases more with
  | nil =>
    rw [if_neg (by simp at hlen; omega), if_pos rfl]
  | cons y m =>
    rw [if_pos (by simp at hlen; omega), if_neg (by simp)]
theorem packX_ok {t : List Lf} {L : List Int} (h : packX t = (L, 0)) : ∃ x r, t = x :: r ∧ x.path.data.toList = [47] ∧ x.ty = 2 ∧ okL x = true ∧ restB [] true r = true ∧ L = bodyX x r ++ le (crcI (bodyX x r)) 4 := by
  cases t with
  | nil => cases h
  | cons x r =>
    unfold packX at h
    dsimp only at h
    split at h
    · rename_i h1
      split at h
      · rename_i h2
        injection h with h3 h4
        exact ⟨x, r, rfl, h1.1, h1.2, h2.1, h2.2, h3.symm⟩
      · injection h with h3 h4; cases h4
    · injection h with h3 h4; cases h4
end Go.Proofs.YtlnaeppbhjmocaaDoor
set_option linter.unusedSimpArgs false
set_option linter.unusedVariables false
namespace Go.Proofs.YtlnaeppbhjmocaaDoor
open Go.RowKit Go.Proofs

theorem OwnB.empty (w : World) (B : Nat) (hB : B ≤ w.heap.size) : OwnB (w.alloc (.cells #[] 5)) B (.slice (some ⟨w.heap.size, 0, none⟩) 0 0) [] := by
  refine ⟨rfl, .inr ⟨w.heap.size, 0, #[], rfl, hB, World.alloc_heap_new w _, Nat.le_refl _, by unfold maxLen; omega, rfl, rfl⟩⟩
set_option maxRecDepth 100000 in
set_option maxHeartbeats 1600000 in
theorem sealed18_any (A : Option Addr) (c : Nat) (L : List Int) (hb : bytesOk L) (hc : L.length ≤ c) (hL : L.length ≤ 1073741824) (hAc : A = none → c = 0) (w : World) (hw : Ok w) (hA : BytesAt w A L) :
    Calls Tryd.prog 25 #[.slice A L.length c] w fun e w' => ∃ a d, e = .returned (.slice a (L ++ le (crcI L) 4).length d) ∧ OwnB w' w.heap.size (.slice a (L ++ le (crcI L) 4).length d) (L ++ le (crcI L) 4) ∧ Fr w w' := by
  have hsum := sum_any A c L hb hc hL w hw hA
  have hcrr := crcI_rg hb
  obtain ⟨cr, hcr⟩ : ∃ cr, crcI L = cr := ⟨_, rfl⟩
  rw [hcr] at hsum hcrr ⊢
  obtain ⟨w1, hw1⟩ : ∃ w1, w.alloc (.cells #[] 5) = w1 := ⟨_, rfl⟩
  obtain ⟨g1, hg1⟩ : ∃ g, w.heap.size = g := ⟨_, rfl⟩
  have O1 := OwnB.empty w w.heap.size (Nat.le_refl _)
  have q1 : w.grownBy w1 none := by rw [← hw1]; exact World.grownBy_alloc _ _ none
  rw [hw1, hg1] at O1
  have f1 := fr_of_grown hw q1
  obtain ⟨v2, w2, hap, O2, q2, i2⟩ := append_row 22 g1 (some ⟨g1, 0, none⟩) 0 [] L A c w1 O1 (hA.fr f1) hAc (by simp; omega) (by have := q1.size; omega)
  rw [List.nil_append] at O2
  simp only [List.length_nil] at hap
  obtain ⟨a2, d2, rfl⟩ := O2.form
  have f2 : Fr w w2 := Fr.row f1 hw q2 (fun k e => by have := (World.ownsRow.lt O1 k e).1; omega)
  obtain ⟨w3, v4, w4, hw3, hap2, O4, q4, i4⟩ := append_lit 22 g1 a2 d2 L (le cr 4) w2 O2 (by rw [le_length]; omega) (by have := f2.size; omega)
  have f4 : Fr w w4 := Fr.row f2 hw q4 (fun k e => by have := (World.ownsRow.lt O2 k e).1; omega)
  obtain ⟨g3, hg3⟩ : ∃ g, w2.heap.size = g := ⟨_, rfl⟩
  rw [hg3, le_length] at hap2
  have hle : le cr 4 = [cr % 256, cr / 256 % 256, cr / 65536 % 256, cr / 16777216] := by
    have h0 : le cr 4 = [cr % 256, cr / 256 % 256, cr / 256 / 256 % 256, cr / 256 / 256 / 256 % 256] := rfl
    rw [h0]
    have h1 : cr / 256 / 256 % 256 = cr / 65536 % 256 := by omega
    have h2 : cr / 256 / 256 / 256 % 256 = cr / 16777216 := by omega
    rw [h1, h2]
  rw [hle] at hw3
  simp only [List.map_cons, List.map_nil] at hw3
  obtain ⟨Z, hZ⟩ : ∃ Z, L ++ le cr 4 = Z := ⟨_, rfl⟩
  rw [hZ] at O4 ⊢
  obtain ⟨a4, d4, rfl⟩ := O4.form
  have HF := Lib.hid (And.intro O4 f4)
  have HSum := Lib.hid hsum
  clear O4 f4 hsum hle hZ O2 f2 q4 i4 q2 i2 O1 f1 q1 hcr
  go_enter Tryd.func25, Tryd.ntmps25
  go_wp2_with (first
    | (go_at_call 40; refine HSum.out.mono ?_; rintro e w7 ⟨rfl, he⟩; replace he := he.symm; subst he)
    | (at_builtin; refine wpList_append_run rfl _ _ 22 22 rfl (by simp [Act.eval]) (by simp [Act.eval]) hap ?_)
    | (at_builtin; refine wpList_append_run rfl _ _ 22 22 rfl (by simp [Act.eval]) (by simp [Act.eval]) hap2 ?_))
  exact ⟨rfl, _, results_tmp rfl _ _ _, a4, d4, rfl, (by rw [hg1]; exact HF.out.1), HF.out.2⟩
end Go.Proofs.YtlnaeppbhjmocaaDoor
set_option linter.unusedSimpArgs false
set_option linter.unusedVariables false
namespace Go.Proofs.YtlnaeppbhjmocaaDoor
open Go.RowKit Go.Proofs Go.Proofs.YtlnaeppbhjmocaaDoorW.PrintWords Go.Proofs.YtlnaeppbhjmocaaDoorW.PrintMore

theorem TreeAt.fr {w w' : World} {B : Nat} {v : Value} {lfs : List Lf} (h : TreeAt w B v lfs) (q : Fr w w') : TreeAt w' B v lfs := by
  obtain ⟨a, tv, c, rfl, h1, h2, h3⟩ := h
  exact ⟨a, tv, c, rfl, h1, own_fr h2 q, h3.fr q⟩
end Go.Proofs.YtlnaeppbhjmocaaDoor
set_option linter.unusedSimpArgs false
set_option linter.unusedVariables false
namespace Go.Proofs.YtlnaeppbhjmocaaDoor
open Go.RowKit Go.Proofs

/-- a tree that was read, and one handed in -/
theorem alike_in {w : World} (hw : Ok w) {B : Nat} {v : Value} {lfs : List Lf} (h : TreeAt w B v lfs) {A : Option Addr} {c : Nat} {tv : List (Lf × Value)} (h' : LAt w A tv) (hc : tv.length ≤ c) (he : tv.map Prod.fst = lfs) (hl : lfs.length ≤ 1099511627776) (hd : ∀ p ∈ tv, p.1.data.length ≤ 1099511627776) :
    Calls Tryd.prog 17 #[v, .slice A tv.length c] w fun e w' => e = .returned (.bool true) ∧ Fr w w' := by
  obtain ⟨a, tv1, c1, rfl, h1, h2, h3⟩ := h
  have l1 : tv1.length = lfs.length := by rw [← h1, List.length_map]
  have l2 : tv.length = lfs.length := by rw [← he, List.length_map]
  have m1 : tv1.map toS = lfs.map toS1 := by rw [← h1, List.map_map]; rfl
  have m2 : tv.map toS = lfs.map toS1 := by rw [← he, List.map_map]; rfl
  obtain ⟨C1, k1⟩ := tree_C h2 h3 (by omega)
  have C2 := h'.toAlike (by omega) hd
  rw [m1] at C1 k1
  rw [m2] at C2
  have hn : (lfs.map toS1).length = lfs.length := List.length_map ..
  have := (Palike.shalelaw18_alike.calls _ a c1 (lfs.map toS1) A c (lfs.map toS1) true w C1 k1 C2 (by omega) (alike_f _ (by omega))).mono fun e w' ⟨he, hb⟩ => (⟨he, Fr.of hw hb⟩ : e = Ending.returned (.bool true) ∧ Fr w w')
  rw [hn] at this
  rw [l1, l2]
  exact this

def headT : List Lf := [⟨⟨#[47]⟩, 2, 493, 0, [], ⟨#[]⟩⟩, ⟨⟨#[47, 97]⟩, 1, 420, 5, [104, 105], ⟨#[]⟩⟩, ⟨⟨#[47, 100]⟩, 2, 493, 0, [], ⟨#[]⟩⟩, ⟨⟨#[47, 100, 47, 108]⟩, 3, 0, 0, [], ⟨#[46, 46, 47, 97]⟩⟩]
def headR : List Lf := [⟨⟨#[47, 97]⟩, 1, 420, 5, [104, 105], ⟨#[]⟩⟩, ⟨⟨#[47, 100]⟩, 2, 493, 0, [], ⟨#[]⟩⟩, ⟨⟨#[47, 100, 47, 108]⟩, 3, 0, 0, [], ⟨#[46, 46, 47, 97]⟩⟩]
def headW : List Int := [80, 82, 67, 76, 1, 237, 1, 0, 0, 0, 0, 0, 0, 0, 0, 0, 1, 164, 1, 5, 0, 0, 0, 0, 0, 0, 0, 1, 97, 2, 0, 0, 0, 1, 2, 0, 0, 0, 104, 105, 0, 2, 237, 1, 0, 0, 0, 0, 0, 0, 0, 0, 1, 100, 1, 3, 0, 0, 0, 0, 0, 0, 0, 0, 0, 0, 1, 108, 4, 46, 46, 47, 97, 255]
theorem head_ok : okL (headT.getD 0 default) = true ∧ restB [] true headR = true := by
  constructor <;> kernel_rfl
theorem head_body : bodyP (headT.getD 0 default) headR = headW := by kernel_rfl
theorem head_eq : headT = headT.getD 0 default :: headR := rfl
theorem head_pack : packX headT = (headW ++ le (crcI headW) 4, 0) := by
  rw [head_eq, packX_good rfl rfl head_ok.1 head_ok.2, head_body]
theorem head_read : readX crcI (headW ++ le (crcI headW) 4) = (headT, 0) := by
  have h := read_pack crcI (headT.getD 0 default) headR [] rfl rfl head_ok.1 head_ok.2 (by decide)
  have e : bodyX (headT.getD 0 default) headR = headW := head_body
  rw [e, List.append_nil, if_pos rfl] at h
  exact h
theorem headW_ok : bytesOk headW := by unfold bytesOk; decide

set_option maxRecDepth 100000 in
set_option maxHeartbeats 6400000 in
theorem heads_any (w : World) (hw : Ok w) (hg : 4 ≤ w.heap.size) :
    Calls Tryd.prog 24 #[] w fun e w' => e = .returned (.bool true) ∧ Fr w w' := by
  have hB0 : 0 < w.heap.size := by omega
  obtain ⟨gk, hgk⟩ : ∃ g, w.heap.size = g := ⟨_, rfl⟩
  have hcv := Lib.run_convert_bytes_const (P := Tryd.prog) w 22 5 #[.int .u8 104, .int .u8 105] 2 2 Tryd.underlying22 Tryd.underlying5
  obtain ⟨wk, hwk⟩ : ∃ wk, w.alloc (.cells #[.int .u8 104, .int .u8 105] 5 ((#[.int .u8 104, .int .u8 105] : Array Value).size, (#[.int .u8 104, .int .u8 105] : Array Value).size + 1)) = wk := ⟨_, rfl⟩
  rw [hwk, hgk] at hcv
  have fk : Fr w wk := by rw [← hwk]; exact (Fr.refl hw).alloc _
  have Hk : wk.heap[gk]? = some (.cells #[.int .u8 104, .int .u8 105] 5 (2, 3)) := by rw [← hwk, ← hgk]; exact heap_alloc_new w _
  have hlk : gk < wk.heap.size := (Array.getElem?_eq_some_iff.1 Hk).1
  clear hwk
  obtain ⟨w2, g2, hg2, hw2, f2, hz2, H2⟩ := boxedN fk.ok #[.string ⟨#[47]⟩, .int .i64 2, .int .i64 493, .int .u64 0, .slice none 0 0, .string ⟨#[]⟩, .string ⟨#[47, 97]⟩, .int .i64 1, .int .i64 420, .int .u64 5, .slice (some ⟨gk, 0, none⟩) 2 2, .string ⟨#[]⟩, .string ⟨#[47, 100]⟩, .int .i64 2, .int .i64 493, .int .u64 0, .slice none 0 0, .string ⟨#[]⟩, .string ⟨#[47, 100, 47, 108]⟩, .int .i64 3, .int .i64 0, .int .u64 0, .slice none 0 0, .string ⟨#[46, 46, 47, 97]⟩] 45
  obtain ⟨w3, g3, hg3, hw3, f3, hz3, H3⟩ := boxedN f2.ok #[.int .u8 80, .int .u8 82, .int .u8 67, .int .u8 76, .int .u8 1, .int .u8 237, .int .u8 1, .int .u8 0, .int .u8 0, .int .u8 0, .int .u8 0, .int .u8 0, .int .u8 0, .int .u8 0, .int .u8 0, .int .u8 0, .int .u8 1, .int .u8 164, .int .u8 1, .int .u8 5, .int .u8 0, .int .u8 0, .int .u8 0, .int .u8 0, .int .u8 0, .int .u8 0, .int .u8 0, .int .u8 1, .int .u8 97, .int .u8 2, .int .u8 0, .int .u8 0, .int .u8 0, .int .u8 1, .int .u8 2, .int .u8 0, .int .u8 0, .int .u8 0, .int .u8 104, .int .u8 105, .int .u8 0, .int .u8 2, .int .u8 237, .int .u8 1, .int .u8 0, .int .u8 0, .int .u8 0, .int .u8 0, .int .u8 0, .int .u8 0, .int .u8 0, .int .u8 0, .int .u8 1, .int .u8 100, .int .u8 1, .int .u8 3, .int .u8 0, .int .u8 0, .int .u8 0, .int .u8 0, .int .u8 0, .int .u8 0, .int .u8 0, .int .u8 0, .int .u8 0, .int .u8 0, .int .u8 1, .int .u8 108, .int .u8 4, .int .u8 46, .int .u8 46, .int .u8 47, .int .u8 97, .int .u8 255] 5
  have f23 := f2.trans f3
  have fw3 := fk.trans f23
  have hBk : BytesAt w3 (some ⟨gk, 0, none⟩) [104, 105] := by
    refine .inr ⟨gk, 0, rfl, Nat.lt_of_lt_of_le hlk f23.size, fun i y hy => f23.cell ?_⟩
    rw [Nat.zero_add]
    refine blk_cell Hk ?_
    have hi : i < 2 := (List.getElem?_eq_some_iff.1 hy).1
    rcases (by omega : i = 0 ∨ i = 1) with rfl | rfl <;> (simp at hy; subst hy; rfl)
  have hBW : BytesAt w3 (some ⟨g3, 0, none⟩) headW := by
    refine .inr ⟨g3, 0, rfl, hz3, fun i y hy => ?_⟩
    rw [Nat.zero_add]
    refine blk_cell H3 ?_
    have h := congrArg (Option.map (Value.int .u8)) hy
    rw [← List.getElem?_map] at h
    simpa [headW] using h
  obtain ⟨tv, htv⟩ : ∃ tv : List (Lf × Value), tv = [(⟨⟨#[47]⟩, 2, 493, 0, [], ⟨#[]⟩⟩, .slice none 0 0), (⟨⟨#[47, 97]⟩, 1, 420, 5, [104, 105], ⟨#[]⟩⟩, .slice (some ⟨gk, 0, none⟩) 2 2), (⟨⟨#[47, 100]⟩, 2, 493, 0, [], ⟨#[]⟩⟩, .slice none 0 0), (⟨⟨#[47, 100, 47, 108]⟩, 3, 0, 0, [], ⟨#[46, 46, 47, 97]⟩⟩, .slice none 0 0)] := ⟨_, rfl⟩
  have htf : tv.map Prod.fst = headT := by rw [htv]; rfl
  have htl : tv.length = 4 := by rw [htv]; rfl
  have hLA : LAt w3 (some ⟨g2, 0, none⟩) tv := by
    rw [htv]
    refine ⟨.inr ⟨g2, 0, rfl, Nat.lt_of_lt_of_le hz2 f3.size, fun i c hi j v hj hv => f3.cell ?_⟩, fun p hp => ?_⟩
    · rw [Nat.zero_add]
      refine blk_cell H2 ?_
      have hi4 : i < 4 := (List.getElem?_eq_some_iff.1 hi).1
      rcases (by omega : i = 0 ∨ i = 1 ∨ i = 2 ∨ i = 3) with rfl | rfl | rfl | rfl <;>
        (simp only [List.map_cons, List.map_nil, List.getElem?_cons_zero, List.getElem?_cons_succ, Option.some.injEq] at hi; subst hi; rcases (by omega : j = 0 ∨ j = 1 ∨ j = 2 ∨ j = 3 ∨ j = 4 ∨ j = 5) with rfl | rfl | rfl | rfl | rfl | rfl <;> exact hv)
    · rcases List.mem_cons.1 hp with rfl | hp
      · exact ⟨none, 0, rfl, .inl rfl, Nat.le_refl _, fun _ => rfl⟩
      · rcases List.mem_cons.1 hp with rfl | hp
        · exact ⟨some ⟨gk, 0, none⟩, 2, rfl, hBk, Nat.le_refl _, fun e => by cases e⟩
        · rcases List.mem_cons.1 hp with rfl | hp
          · exact ⟨none, 0, rfl, .inl rfl, Nat.le_refl _, fun _ => rfl⟩
          · obtain rfl := List.mem_singleton.1 hp
            exact ⟨none, 0, rfl, .inl rfl, Nat.le_refl _, fun _ => rfl⟩
  have hprop : (∀ p ∈ tv, p.1.path.size ≤ 1048575) ∧ (∀ p ∈ tv, 0 ≤ p.1.stamp ∧ p.1.stamp ≤ 18446744073709551615) ∧ (tv.map fun p => 256 + 6 * p.1.data.length).sum ≤ 536870912 ∧ (∀ p ∈ tv, bytesOk p.1.data) := by
    have h : (∀ l ∈ headT, l.path.size ≤ 1048575) ∧ (∀ l ∈ headT, 0 ≤ l.stamp ∧ l.stamp ≤ 18446744073709551615) ∧ (headT.map fun l => 256 + 6 * l.data.length).sum ≤ 536870912 ∧ (∀ l ∈ headT, bytesOk l.data) := by
      refine ⟨by decide, by decide, by decide, by unfold bytesOk; decide⟩
    rw [← htf] at h
    refine ⟨fun p hp => h.1 p.1 (List.mem_map_of_mem hp), fun p hp => h.2.1 p.1 (List.mem_map_of_mem hp), ?_, fun p hp => h.2.2.2 p.1 (List.mem_map_of_mem hp)⟩
    have := h.2.2.1
    rw [List.map_map] at this
    exact this
  have hPk := pack_any (some ⟨g2, 0, none⟩) 4 tv w3 fw3.ok hLA (by omega) (by omega) hprop.1 hprop.2.1 hprop.2.2.1 hprop.2.2.2 (by have := fw3.size; omega)
  rw [htf, head_pack, htl] at hPk
  obtain ⟨RW, hRW⟩ : ∃ R, headW ++ le (crcI headW) 4 = R := ⟨_, rfl⟩
  have hrl : RW.length = 78 := by rw [← hRW, List.length_append, le_length]; rfl
  have hrb : bytesOk RW := by rw [← hRW]; exact bytesOk_app headW_ok (le_mem _ _)
  have hrd := head_read
  rw [hRW] at hPk hrd
  have HSe := Lib.hid (fun W (q : Fr w3 W) => by
    have := sealed18_any (some ⟨g3, 0, none⟩) 74 headW headW_ok (by decide) (by decide) (fun e => by cases e) W q.ok (hBW.fr q)
    rw [hRW] at this
    exact this)
  have HRe := Lib.hid (fun W (q : Fr w3 W) A c (h1 : BytesAt W A RW) (h2 : RW.length ≤ c) => pread_any A c RW W q.ok h1 hrb h2 (by omega) (by have := fw3.size; have := q.size; omega))
  rw [hrd] at HRe
  have HAl := Lib.hid (fun W (v : Value) (B : Nat) (q : Fr w3 W) (h : TreeAt W B v headT) => by
    have := alike_in q.ok h (hLA.fr q) (c := 4) (by omega) htf (by decide) (fun p hp => by
      have h9 : ∀ l ∈ headT, l.data.length ≤ 1099511627776 := by decide
      exact h9 p.1 (by rw [← htf]; exact List.mem_map_of_mem hp))
    rw [htl] at this
    exact this)
  have HPk := Lib.hid hPk
  have HLA := Lib.hid (And.intro hLA (And.intro htf htl))
  have HF := Lib.hid fw3
  have HRL := Lib.hid hrl
  have hE0 : ((0 : Int) != 0) = false := rfl
  clear hPk hLA hRW hrl hrd hprop hBW hBk hrb fw3 htv htf htl
  go_enter Tryd.func24, Tryd.ntmps24
  go_wp2_with (first
    | (go_at_call 21; refine HPk.out.mono ?_; rintro e w4 ⟨v4, rfl, O4, q⟩; go_loud (obtain ⟨a4, d4, rfl⟩ := O4.form))
    | (go_at_call 16; refine (no_any 0 _ q.ok).mono ?_; rintro e w9 ⟨rfl, q9⟩; replace T8' := TreeAt.fr T8' q9; replace q := q.trans q9; clear q9)
    | (go_at_call 16; refine (no_any 0 _ q.ok).mono ?_; rintro e w5 ⟨rfl, q5⟩; replace O4 := OwnB.fr O4 q5; replace q := q.trans q5; clear q5)
    | (go_at_call 25; refine (HSe.out _ q).mono ?_; rintro e w6 ⟨a6, d6, rfl, O6, q6⟩; replace O4 := OwnB.fr O4 q6; replace q := q.trans q6; clear q6)
    | (go_at_call 22; refine (same_true q.ok O4.at.1 O6.at.1 O4.at.2.2 O6.at.2.2 (by have := HRL.out; omega)).mono ?_; rintro e w7 ⟨rfl, q7⟩; replace O4 := OwnB.fr O4 q7; replace q := q.trans q7; clear q7)
    | (go_at_call 15; refine (HRe.out _ q _ _ O4.at.1 O4.at.2.2).mono ?_; rintro e w8 ⟨v8, rfl, q8, T8⟩; replace q := q.trans q8; (obtain ⟨B8, T8'⟩ : ∃ B, TreeAt w8 B v8 headT := ⟨_, T8⟩); clear T8 q8)
    | (go_at_call 17; refine (HAl.out _ _ _ q T8').mono ?_; rintro e w9 ⟨rfl, q9⟩; replace q := q.trans q9; clear q9))
  exact ⟨rfl, _, results_tmp rfl _ _ _, rfl, HF.out.trans q⟩
end Go.Proofs.YtlnaeppbhjmocaaDoor
set_option linter.unusedSimpArgs false
set_option linter.unusedVariables false
namespace Go.Proofs.YtlnaeppbhjmocaaDoor
open Go.RowKit Go.Proofs

end Go.Proofs.YtlnaeppbhjmocaaDoor
set_option linter.unusedSimpArgs false
set_option linter.unusedVariables false
namespace Go.Proofs.YtlnaeppbhjmocaaDoor
open Go.RowKit Go.Proofs

theorem restB_all : ∀ (r : List Lf) (ahead : List ByteArray) (dir : Bool), restB ahead dir r = true → ∀ l ∈ r, okL l = true ∧ namesP l.path.data.toList = some (nmL l) ∧ nmL l ≠ [] := by
  intro r
  induction r with
  | nil => intro _ _ _ l hl; cases hl
  | cons x r ih =>
    intro ahead dir h l hl
    rw [restB, Bool.and_eq_true, Bool.and_eq_true, Bool.and_eq_true] at h
    obtain ⟨⟨⟨h1, h2⟩, h3⟩, h4⟩ := h
    rcases List.mem_cons.1 hl with e | e
    · subst e
      refine ⟨h2, ?_, ?_⟩
      · unfold nmL
        cases hq : namesP l.path.data.toList with
        | none => rw [hq] at h1; cases h1
        | some ns => rfl
      · simp only [stepX, Bool.and_eq_true] at h3
        exact behind_ne ltB h3.1.1
    · exact ih _ _ h4 l e
theorem last_63 {l : Lf} {ns : List ByteArray} (h : namesP l.path.data.toList = some ns) (hne : ns ≠ []) : (ns.getLastD ⟨#[]⟩).size ≤ 63 := by
  have hg := (namesP_good h).2.1
  have hl : ns.getLastD ⟨#[]⟩ ∈ ns := by
    rw [List.getLastD_eq_getLast?, List.getLast?_eq_some_getLast hne]
    exact List.getLast_mem hne
  exact (nameB_all (hg _ hl)).2.2.2.1
theorem pieces_ok : ∀ (r : List Lf), (∀ l ∈ r, okL l = true ∧ namesP l.path.data.toList = some (nmL l) ∧ nmL l ≠ []) → (∀ l ∈ r, bytesOk l.data) →
    bytesOk (r.flatMap fun y => pieceB y (nmL y)) ∧ (r.flatMap fun y => pieceB y (nmL y)).length ≤ (r.map fun l => 256 + 6 * l.data.length).sum := by
  intro r
  induction r with
  | nil => intro _ _; exact ⟨fun x hx => (by cases hx), by simp⟩
  | cons l r ih =>
    intro h hd
    obtain ⟨h1, h2, h3⟩ := h l List.mem_cons_self
    have hp := piece_ok h1 (hd l List.mem_cons_self) (namesP_good h2).2.2.1 (last_63 h2 h3)
    obtain ⟨i1, i2⟩ := ih (fun x hx => h x (List.mem_cons_of_mem _ hx)) (fun x hx => hd x (List.mem_cons_of_mem _ hx))
    rw [List.flatMap_cons, List.map_cons, List.sum_cons, List.length_append]
    exact ⟨bytesOk_app hp.1 i1, by have := hp.2; omega⟩
theorem packX_bytes {t : List Lf} {L : List Int} (h : packX t = (L, 0)) (hd : ∀ l ∈ t, bytesOk l.data) : bytesOk L ∧ L.length ≤ 20 + (t.map fun l => 256 + 6 * l.data.length).sum ∧ 20 ≤ L.length := by
  obtain ⟨x, r, rfl, h1, h2, h3, h4, rfl⟩ := packX_ok h
  obtain ⟨p1, p2⟩ := pieces_ok r (restB_all r _ _ h4) (fun l hl => hd l (List.mem_cons_of_mem _ hl))
  have hb : bytesOk (headX x) := by
    unfold headX
    refine bytesOk_app (bytesOk_app (fun z hz => ?_) (le_mem _ _)) (le_mem _ _)
    simp at hz
    omega
  have hl : (headX x).length = 15 := by
    unfold headX
    simp only [List.length_append, le_length, List.length_cons, List.length_nil]
  unfold bodyX
  refine ⟨bytesOk_app (bytesOk_app (bytesOk_app hb p1) (bytesOk_one (by decide))) (le_mem _ _), ?_, ?_⟩
  · simp only [List.length_append, le_length, List.length_cons, List.length_nil, hl, List.map_cons, List.sum_cons]
    omega
  · simp only [List.length_append, le_length, List.length_cons, List.length_nil, hl]
    omega
/-- what is packed, and something behind it, read -/
theorem pack_more {t : List Lf} {L : List Int} (h : packX t = (L, 0)) (hst : ∀ l ∈ t, 0 ≤ l.stamp ∧ l.stamp ≤ 18446744073709551615) (more : List Int) : readX crcI (L ++ more) = if more = [] then (t, 0) else ([], 190) := by
  obtain ⟨x, r, rfl, h1, h2, h3, h4, rfl⟩ := packX_ok h
  exact read_pack crcI x r more h1 h2 h3 h4 hst
/-- a tree argument that is not beyond the bounds -/
structure TIn (w : World) (A : Option Addr) (c : Nat) (tv : List (Lf × Value)) : Prop where
  at_ : LAt w A tv
  cap : tv.length ≤ c
  len : tv.length ≤ 1048576
  path : ∀ p ∈ tv, p.1.path.size ≤ 1048575
  stamp : ∀ p ∈ tv, 0 ≤ p.1.stamp ∧ p.1.stamp ≤ 18446744073709551615
  sum : (tv.map fun p => 256 + 6 * p.1.data.length).sum ≤ 536870912
  bytes : ∀ p ∈ tv, bytesOk p.1.data
theorem TIn.pack {w0 w : World} {A : Option Addr} {c : Nat} {tv : List (Lf × Value)} (h : TIn w0 A c tv) (q : Fr w0 w) (hB0 : 0 < w0.heap.size) :
    Calls Tryd.prog 21 #[.slice A tv.length c] w fun e w' => ∃ v, e = .returned (.tuple #[v, .int .i64 (packX (tv.map Prod.fst)).2]) ∧ OwnB w' w.heap.size v (packX (tv.map Prod.fst)).1 ∧ Fr w w' :=
  pack_any A c tv w q.ok (h.at_.fr q) h.cap (by have := h.len; omega) h.path h.stamp h.sum h.bytes (by have := q.size; omega)
theorem BytesAt.take {w : World} {A : Option Addr} {L : List Int} (h : BytesAt w A L) (k : Nat) : BytesAt w A (L.take k) := by
  rcases h with h | ⟨g, o, hA, hg, h⟩
  · exact .inl (by rw [h]; simp)
  · refine .inr ⟨g, o, hA, hg, fun i x hx => h i x ?_⟩
    rw [List.getElem?_take] at hx
    split at hx
    · exact hx
    · cases hx
end Go.Proofs.YtlnaeppbhjmocaaDoor
set_option linter.unusedSimpArgs false
set_option linter.unusedVariables false
namespace Go.Proofs.YtlnaeppbhjmocaaDoor
open Go.ChangeShapes Go.WideShapes Go.ChangeAt Go.RowKit

instance : Inhabited (Lf × Value) := ⟨(default, .bool false)⟩
section
variable {H : Type} {enc : TypeId × Value → H} {w : World} {base : Nat} {sp : Nat → Bool} {held : Bool}

theorem bulk_sum {α : Type} (F : Nat → α) (g : α → Nat) (D : Nat → DataW H) : ∀ n, (∀ i, i < n → g (F i) ≤ Rows.uptoBulk (D i)) → (((List.range n).map F).map g).sum ≤ Rows.uptoBulkAll ((List.range n).map D) := by
  have happ : ∀ a b : List (DataW H), Rows.uptoBulkAll (a ++ b) = Rows.uptoBulkAll a + Rows.uptoBulkAll b := by
    intro a b
    induction a with
    | nil => simp [Rows.uptoBulkAll]
    | cons x r ih => simp only [List.cons_append, Rows.uptoBulkAll, ih]; omega
  intro n
  induction n with
  | zero => intro _; simp
  | succ n ih =>
    intro h
    have h1 := ih (fun i hi => h i (by omega))
    have h2 := h n (by omega)
    rw [List.range_succ, List.map_append, List.map_append, List.map_append, List.sum_append, happ]
    simp only [List.map_cons, List.map_nil, List.sum_cons, List.sum_nil, Rows.uptoBulkAll]
    omega
/-- a slice of structs of k cells, with the sum of a measure -/
theorem open_rows2 {α : Type} [Inhabited α] {Ts e : TypeId} {k : Nat} (f : α → List Value) (hf : ∀ a, (f a).length = k) (hk : 0 < k) (ht : Tryd.prog.underlying Ts = some (.slice e)) (hc : Tryd.prog.cellsOf e = k) (Q : α → DataW H → Prop) (g : α → Nat) (hg : ∀ a d, Q a d → g a ≤ Rows.uptoBulk d)
    (hopen : ∀ {fuel : Nat} {cs : List Value} {x : DataW H × List MemPlace}, DataW.trod enc Tryd.prog w base sp held fuel e cs = some x → ∃ a, Q a x.1 ∧ cs = f a)
    {fuel : Nat} {cs : List Value} {x : DataW H × List MemPlace} (h : DataW.trod enc Tryd.prog w base sp held fuel Ts cs = some x) :
    ∃ (l : List α) (A : Option Addr) (c : Nat), cs = [.slice A l.length c] ∧ Row w A k (l.map f) ∧ l.length ≤ c ∧ (A = none → c = 0) ∧ l.length ≤ Rows.uptoBulk x.1 ∧ (l.map g).sum ≤ Rows.uptoBulk x.1 ∧ ∀ a ∈ l, ∃ d, Q a d ∧ Rows.uptoBulk d ≤ Rows.uptoBulk x.1 := by
  rcases Deep.open_slice ht h with ⟨rfl, rfl⟩ | ⟨ad, len, cap, m, n, D, Pl, rfl, hb, hl, hm, hmm, rfl, hx⟩
  · exact ⟨[], none, 0, rfl, .inl rfl, Nat.le_refl _, fun _ => rfl, by simp, by simp, fun a ha => by cases ha⟩
  rw [hc] at hx
  have hle : len ≤ m := by rw [hmm]; split <;> omega
  have key : ∀ i, i < len → ∃ a : α, Q a (D i) ∧ w.cells? base (ad.add (i * k)) k = some (f a) := fun i hi => by
    obtain ⟨cs', h1, h2⟩ := hx i (by omega)
    obtain ⟨a, ha, rfl⟩ := hopen h2
    exact ⟨a, ha, h1⟩
  clear hx
  obtain ⟨F, hF⟩ := Deep.choose_lt (α := α) (p := fun i a => Q a (D i) ∧ w.cells? base (ad.add (i * k)) k = some (f a)) key
  have hbulk : Rows.uptoBulkAll ((List.range len).map D) ≤ Rows.uptoBulk (DataW.slice ((List.range len).map D) ((List.range (m - len)).map fun j => D (len + j))) := by
    simp only [Rows.uptoBulk]; omega
  refine ⟨(List.range len).map F, some ad, cap, by simp, ?_, by simpa using hl, (fun e => by cases e), ?_, Nat.le_trans (bulk_sum F g D len (fun i hi => hg _ _ (hF i hi).1)) hbulk, ?_⟩
  · cases len with
    | zero => exact .inl rfl
    | succ len =>
      right
      have cellsF : ∀ i, i < len + 1 → ∀ j, j < k → w.cell? (ad.add (i * k + j)) = (f (F i))[j]? := fun i hi j hj => by
        have := (World.cells?_some (hF i hi).2).2.2 j hj
        rwa [Deep.add_add] at this
      obtain ⟨b, o, spot⟩ := ad
      have h0 := cellsF 0 (by omega) 0 hk
      obtain ⟨v0, hv0⟩ : ∃ v, (f (F 0))[0]? = some v := ⟨_, List.getElem?_eq_getElem (by rw [hf]; exact hk)⟩
      rw [hv0] at h0
      have hspot : spot = none := by simpa [Addr.add] using World.cell?_spot h0
      subst hspot
      refine ⟨b, o, rfl, by simpa [Addr.add] using World.block_lt_of_cell? w _ h0, fun i c hi j v hj hv => ?_⟩
      have hi' : i < len + 1 := by have := (List.getElem?_eq_some_iff.1 hi).1; simpa using this
      have hce : c = f (F i) := by
        simp only [List.getElem?_map, List.getElem?_range hi', Option.map_some, Option.some.injEq] at hi
        exact hi.symm
      subst hce
      have := cellsF i hi' j hj
      rw [Lib.add_plain, hv] at this
      rw [Nat.add_assoc]; exact this
  · have := bulk_len ((List.range len).map D)
    simp only [List.length_map, List.length_range] at this ⊢
    omega
  · intro a ha
    obtain ⟨i, hi, rfl⟩ := List.mem_map.1 ha
    have hi' : i < len := by simpa using hi
    refine ⟨D i, (hF i hi').1, ?_⟩
    exact Nat.le_trans (bulk_get (es := (List.range len).map D) (i := i) (e := D i) (by simp [hi'])) hbulk
def LfOk (w : World) (p : Lf × Value) (d : DataW H) : Prop :=
  p.1.path.size + 1 ≤ Rows.uptoBulk d ∧ (0 ≤ p.1.stamp ∧ p.1.stamp ≤ 18446744073709551615) ∧ (∃ a c, p.2 = .slice a p.1.data.length c ∧ BytesAt w a p.1.data ∧ p.1.data.length ≤ c ∧ (a = none → c = 0)) ∧ bytesOk p.1.data ∧ p.1.data.length ≤ Rows.uptoBulk d
set_option maxRecDepth 100000 in
theorem open_leaf {fuel : Nat} {cs : List Value} {x : DataW H × List MemPlace} (h : DataW.trod enc Tryd.prog w base sp held fuel 45 cs = some x) : ∃ p : Lf × Value, LfOk w p x.1 ∧ cs = lcell p := by
  have hc1 : Tryd.prog.cellsOf 3 = 1 := by kernel_rfl
  have hcu : Tryd.prog.cellsOf 43 = 1 := by kernel_rfl
  have hcs : Tryd.prog.cellsOf 9 = 1 := by kernel_rfl
  have hcB : Tryd.prog.cellsOf 22 = 1 := by kernel_rfl
  have hc6 : Tryd.prog.cellsOf 45 = 6 := by kernel_rfl
  obtain ⟨xs, n, rfl, rfl, hl, hx, hf⟩ := DataW.trod_struct Tryd.underlying45 h
  rw [hc6] at hl
  match xs, hx, cs, hl with
  | [x0, x1, x2, x3, x4, x5], _, [c0, c1, c2, c3, c4, c5], _ =>
    have h0 := hf 0 _ rfl
    have h1 := hf 1 _ rfl
    have h2 := hf 2 _ rfl
    have h3 := hf 3 _ rfl
    have h4 := hf 4 _ rfl
    have h5 := hf 5 _ rfl
    simp [hc1, hcu, hcs, hcB] at h0 h1 h2 h3 h4 h5
    obtain ⟨pa, e0, rfl, _⟩ := DataW.trod_string Tryd.underlying9 h0
    obtain ⟨ty, e1, rfl, w1⟩ := DataW.trod_int Tryd.underlying3 h1
    obtain ⟨mo, e2, rfl, w2⟩ := DataW.trod_int Tryd.underlying3 h2
    obtain ⟨st, e3, rfl, w3⟩ := DataW.trod_int Tryd.underlying43 h3
    obtain ⟨L, A, c, e4, hB, hb, hlc, hA, hlen⟩ := open_u8s h4
    obtain ⟨tg, e5, rfl, _⟩ := DataW.trod_string Tryd.underlying9 h5
    simp at e0 e1 e2 e3 e4 e5
    subst e0 e1 e2 e3 e4 e5
    have hst : 0 ≤ st ∧ st ≤ 18446744073709551615 := by
      have := w3
      simp [Lit.wf, IntKind.min, IntKind.max, IntKind.signed, IntKind.bits] at this
      omega
    refine ⟨(⟨pa, ty, mo, st, L, tg⟩, .slice A L.length c), ⟨?_, hst, ⟨A, c, rfl, hB, hlc, hA⟩, hb, ?_⟩, rfl⟩
    · have := bulk_pos x4.1
      simp only [List.map_cons, Rows.uptoBulk, Rows.uptoBulkAll, Array.length_toList, ByteArray.size]; omega
    · simp only [List.map_cons, Rows.uptoBulk, Rows.uptoBulkAll]; omega
/-- a tree as an argument -/
theorem open_tree {fuel : Nat} {cs : List Value} {x : DataW H × List MemPlace} (h : DataW.trod enc Tryd.prog w base sp held fuel 26 cs = some x) (hb : Rows.uptoBulk x.1 ≤ 1048576) :
    ∃ (tv : List (Lf × Value)) (A : Option Addr) (c : Nat), cs = [.slice A tv.length c] ∧ TIn w A c tv ∧ (A = none → c = 0) := by
  have hc6 : Tryd.prog.cellsOf 45 = 6 := by kernel_rfl
  obtain ⟨tv, A, c, h1, hR, hlc, hA, hlen, hsum, hall⟩ := open_rows2 lcell (fun _ => rfl) (by decide) Tryd.underlying26 hc6 (fun p d => LfOk w p d) (fun p => p.1.data.length) (fun p d q => q.2.2.2.2) (fun h => open_leaf h) h
  refine ⟨tv, A, c, h1, ⟨⟨hR, fun p hp => ?_⟩, hlc, by omega, fun p hp => ?_, fun p hp => ?_, ?_, fun p hp => ?_⟩, hA⟩
  · obtain ⟨d, q, _⟩ := hall p hp
    exact q.2.2.1
  · obtain ⟨d, q, hd⟩ := hall p hp
    have := q.1
    omega
  · obtain ⟨d, q, hd⟩ := hall p hp
    exact q.2.1
  · have hs : ∀ l : List (Lf × Value), (l.map fun p => 256 + 6 * p.1.data.length).sum = 256 * l.length + 6 * (l.map fun p => p.1.data.length).sum := by
      intro l
      induction l with
      | nil => rfl
      | cons y r ih => simp only [List.map_cons, List.sum_cons, List.length_cons, ih]; omega
    rw [hs]
    omega
  · obtain ⟨d, q, hd⟩ := hall p hp
    exact q.2.2.2.1
end
end Go.Proofs.YtlnaeppbhjmocaaDoor
set_option linter.unusedSimpArgs false
set_option linter.unusedVariables false
namespace Go.Proofs.YtlnaeppbhjmocaaDoor
open Go.RowKit Go.Proofs Go.Proofs.YtlnaeppbhjmocaaDoorW.PrintWords Go.Proofs.YtlnaeppbhjmocaaDoorW.PrintMore

def okS (x : PPack.S45) : Bool := (namesP x.f0.data.toList).isSome && goodB x.f1 x.f2 x.f4.length x.f5
/-! ### The document's test is the program's -/
theorem ltB_irr (a : ByteArray) : ltB a a = false := by
  unfold ltB
  rw [bl_eq]
  simp
theorem ltB_tr (a b c : ByteArray) (h1 : ltB a b = true) (h2 : ltB b c = true) : ltB a c = true := by
  unfold ltB at h1 h2 ⊢
  rw [bl_eq] at h1 h2 ⊢
  rw [decide_eq_true_eq] at h1 h2 ⊢
  exact List.lt_trans h1 h2
def toPl (l : Lf) : PPack.S45 := ⟨l.path, l.ty, l.mode, l.stamp, l.data, l.tgt⟩
def pairL (l : Lf) : List ByteArray × Bool := (nmL l, decide (l.ty = 2))
theorem restB_eq : ∀ (r : List Lf) (ahead : List ByteArray) (dir : Bool), restB ahead dir r = (r.all (fun l => okS (toPl l)) && progT ltB ahead dir (r.map pairL)) := by
  intro r
  induction r with
  | nil => intro _ _; rfl
  | cons l r ih =>
    intro ahead dir
    rw [restB, ih, List.all_cons, List.map_cons]
    show _ = (okS (toPl l) && _ && progT ltB ahead dir ((nmL l, decide (l.ty = 2)) :: _))
    rw [progT]
    have : okS (toPl l) = ((namesP l.path.data.toList).isSome && okL l) := rfl
    rw [this]
    generalize (namesP l.path.data.toList).isSome = a
    generalize okL l = b
    generalize stepX ltB ahead dir (nmL l) = c
    cases a <;> cases b <;> cases c <;> simp
theorem nm_root : namesP [47] = some [] := by decide
end Go.Proofs.YtlnaeppbhjmocaaDoor
set_option linter.unusedSimpArgs false
set_option linter.unusedVariables false
namespace Go.Proofs.YtlnaeppbhjmocaaDoor
open Go.RowKit Go.Proofs

end Go.Proofs.YtlnaeppbhjmocaaDoor
set_option linter.unusedSimpArgs false
set_option linter.unusedVariables false
namespace Go.Proofs.YtlnaeppbhjmocaaDoor
open Go.RowKit Go.Proofs

end Go.Proofs.YtlnaeppbhjmocaaDoor
set_option linter.unusedSimpArgs false
set_option linter.unusedVariables false
namespace Go.Proofs.YtlnaeppbhjmocaaDoor
open Go.RowKit Go.Proofs

end Go.Proofs.YtlnaeppbhjmocaaDoor
set_option linter.unusedSimpArgs false
set_option linter.unusedVariables false
namespace Go.Proofs.YtlnaeppbhjmocaaDoor
open Go.RowKit Go.Proofs

end Go.Proofs.YtlnaeppbhjmocaaDoor
set_option linter.unusedSimpArgs false
set_option linter.unusedVariables false
namespace Go.Proofs.YtlnaeppbhjmocaaDoor
open Go.RowKit Go.Proofs Go.Proofs.YtlnaeppbhjmocaaDoorW.PrintWords Go.Proofs.YtlnaeppbhjmocaaDoorW.PrintMore

/-- one byte of a row of one's own is another -/
theorem OwnB.set {w : World} {B g n c : Nat} {xs : List Int} (h : OwnB w B (.slice (some ⟨g, 0, none⟩) n c) xs) (k : Nat) (z : Int) : OwnB (w.setCell ⟨g, k, none⟩ (.int .u8 z)) B (.slice (some ⟨g, 0, none⟩) n c) (xs.set k z) := by
  obtain ⟨h1, h2⟩ := h
  refine ⟨by simp, ?_⟩
  rcases h2 with ⟨hv, _⟩ | ⟨g', cap, cur, hv, hb, hg, hn, hm, hs, ht⟩
  · cases hv
  · injection hv with e1 e2 e3
    injection e1 with e1
    injection e1 with e1
    subst e1 e2 e3
    refine .inr ⟨g, c, cur.setIfInBounds k (.int .u8 z), by rw [List.length_set], hb, ?_, by rw [List.length_set]; exact hn, hm, by simpa using hs, ?_⟩
    · simp [World.setCell, Array.getElem?_modify, hg]
    · rw [Array.toList_setIfInBounds, List.length_set, List.take_set, ht, List.map_set]
end Go.Proofs.YtlnaeppbhjmocaaDoor
set_option linter.unusedSimpArgs false
set_option linter.unusedVariables false
namespace Go.Proofs.YtlnaeppbhjmocaaDoor
open Go.RowKit Go.Proofs Go.Proofs.YtlnaeppbhjmocaaDoorW.PrintWords Go.Proofs.YtlnaeppbhjmocaaDoorW.PrintMore

theorem piece_min (l : Lf) (ns : List ByteArray) : 13 ≤ (pieceB l ns).length := by
  unfold pieceB pieceH
  simp only [List.length_append, List.length_cons, List.length_nil, le_length]
  omega
theorem pieces_min : ∀ r : List Lf, 13 * r.length ≤ (r.flatMap fun y => pieceB y (nmL y)).length ∧ (r.flatMap fun y => pieceB y (nmL y)).length = (r.map fun y => (pieceB y (nmL y)).length).sum := by
  intro r
  induction r with
  | nil => exact ⟨Nat.le_refl _, rfl⟩
  | cons l r ih =>
    have := piece_min l (nmL l)
    rw [List.flatMap_cons, List.length_append, List.length_cons, List.map_cons, List.sum_cons]
    omega
end Go.Proofs.YtlnaeppbhjmocaaDoor
set_option linter.unusedSimpArgs false
set_option linter.unusedVariables false
namespace Go.Proofs.YtlnaeppbhjmocaaDoor
open Go.RowKit Go.Proofs

theorem refT_filter (all all' : List (List ByteArray × Bool)) (keep : List ByteArray × Bool → Bool) : ∀ (r : List (List ByteArray × Bool)) (ahead ahead' : List ByteArray), refT ltB all ahead r = true → (ahead' = ahead ∨ behindX ltB ahead' ahead = true) →
    (∀ y ∈ r, keep y = true → dirX all y.1.dropLast = true → dirX all' y.1.dropLast = true) → refT ltB all' ahead' (r.filter keep) = true := by
  intro r
  induction r with
  | nil => intro _ _ _ _ _; rfl
  | cons y r ih =>
    intro ahead ahead' h ha hd
    obtain ⟨n, d⟩ := y
    simp only [refT, Bool.and_eq_true] at h
    obtain ⟨⟨h1, h2⟩, h3⟩ := h
    have hb : behindX ltB ahead' n = true := by
      rcases ha with e | e
      · rw [e]; exact h1
      · exact behind_trans ltB (fun a => ltB_irr a) ltB_tr _ _ _ e h1
    rw [List.filter_cons]
    cases hk : keep (n, d) with
    | true =>
      simp only [if_true, refT, Bool.and_eq_true]
      exact ⟨⟨hb, hd (n, d) List.mem_cons_self hk h2⟩, ih n n h3 (.inl rfl) (fun z hz => hd z (List.mem_cons_of_mem _ hz))⟩
    | false =>
      simp only [Bool.false_eq_true, if_false]
      exact ih n ahead' h3 (.inr hb) (fun z hz => hd z (List.mem_cons_of_mem _ hz))
/-- a tree without the leaves below some places -/
theorem restB_filter {r : List Lf} (h : restB [] true r = true) (m : List ByteArray) (hm : m ≠ []) : restB [] true (r.filter fun l => !(decide (m <+: nmL l))) = true := by
  rw [restB_eq, Bool.and_eq_true] at h ⊢
  obtain ⟨h1, h2⟩ := h
  refine ⟨?_, ?_⟩
  · rw [List.all_eq_true] at h1 ⊢
    exact fun x hx => h1 x (List.mem_filter.1 hx).1
  · rw [prog_is_ref ltB (fun a => ltB_irr a) ltB_tr] at h2 ⊢
    have hf : (r.filter fun l => !(decide (m <+: nmL l))).map pairL = (r.map pairL).filter fun y => !(decide (m <+: y.1)) := by
      rw [List.filter_map]; rfl
    rw [hf]
    refine refT_filter _ _ _ _ _ _ h2 (.inl rfl) ?_
    intro y hy hk hdx
    unfold dirX at hdx ⊢
    rw [List.any_eq_true] at hdx ⊢
    obtain ⟨z, hz, hz2⟩ := hdx
    refine ⟨z, ?_, hz2⟩
    rcases List.mem_cons.1 hz with e | e
    · rw [e]; exact List.mem_cons_self
    · refine List.mem_cons_of_mem _ (List.mem_filter.2 ⟨e, ?_⟩)
      simp only [Bool.and_eq_true, decide_eq_true_eq] at hz2
      simp only [Bool.not_eq_true', decide_eq_false_iff_not] at hk ⊢
      intro hp
      apply hk
      rw [hz2.2] at hp
      exact hp.trans (List.dropLast_prefix _)
theorem restB_app : ∀ (r s : List Lf) (ahead : List ByteArray) (dir : Bool), restB ahead dir (r ++ s) = true → restB ahead dir r = true := by
  intro r
  induction r with
  | nil => intro _ _ _ _; rfl
  | cons l r ih =>
    intro s ahead dir h
    rw [List.cons_append, restB, Bool.and_eq_true] at h
    rw [restB, Bool.and_eq_true]
    exact ⟨h.1, ih s _ _ h.2⟩
theorem pieces_len (r : List Lf) : (r.flatMap fun y => pieceB y (nmL y)).length = (r.map fun y => (pieceB y (nmL y)).length).sum := (pieces_min r).2
theorem body_len (x : Lf) (r : List Lf) : (bodyX x r ++ le (crcI (bodyX x r)) 4).length = 20 + (r.map fun y => (pieceB y (nmL y)).length).sum := by
  rw [← pieces_len]
  unfold bodyX headX
  simp only [List.length_append, le_length, List.length_cons, List.length_nil]
  omega
theorem sum_filter (f : Lf → Nat) (k : Lf → Bool) : ∀ r : List Lf, ((r.filter k).map f).sum ≤ (r.map f).sum ∧ ((∃ l ∈ r, k l = false ∧ 0 < f l) → ((r.filter k).map f).sum < (r.map f).sum) := by
  intro r
  induction r with
  | nil => exact ⟨Nat.le_refl _, fun ⟨l, hl, _⟩ => by cases hl⟩
  | cons x r ih =>
    rw [List.filter_cons]
    cases hk : k x with
    | true =>
      simp only [if_true, List.map_cons, List.sum_cons]
      refine ⟨by omega, ?_⟩
      rintro ⟨l, hl, h1, h2⟩
      rcases List.mem_cons.1 hl with e | e
      · rw [e, hk] at h1; cases h1
      · have := ih.2 ⟨l, e, h1, h2⟩; omega
    | false =>
      simp only [Bool.false_eq_true, if_false, List.map_cons, List.sum_cons]
      refine ⟨by omega, ?_⟩
      rintro ⟨l, hl, h1, h2⟩
      rcases List.mem_cons.1 hl with e | e
      · rw [e] at h2; omega
      · have := ih.2 ⟨l, e, h1, h2⟩; omega
theorem pack_fewer {t : List Lf} {L : List Int} (h : packX t = (L, 0)) {m : List ByteArray} (hm : m ≠ []) {l : Lf} (hl : l ∈ t) (hlm : nmL l = m) : ∃ L', packX (t.filter fun l => !(decide (m <+: nmL l))) = (L', 0) ∧ L'.length < L.length := by
  obtain ⟨x, r, rfl, h1, h2, h3, h4, rfl⟩ := packX_ok h
  have hnx : nmL x = [] := by unfold nmL; rw [h1, nm_root]; rfl
  have hkx : (!(decide (m <+: nmL x))) = true := by
    rw [hnx]
    simp only [Bool.not_eq_true', decide_eq_false_iff_not, List.prefix_nil]
    exact hm
  have hlr : l ∈ r := by
    rcases List.mem_cons.1 hl with e | e
    · rw [e, hnx] at hlm; exact absurd hlm.symm hm
    · exact e
  rw [List.filter_cons, if_pos hkx]
  refine ⟨_, packX_good h1 h2 h3 (restB_filter h4 m hm), ?_⟩
  have e1 := body_len x (r.filter fun l => !(decide (m <+: nmL l)))
  have e2 := body_len x r
  have e3 : bodyP x (r.filter fun l => !(decide (m <+: nmL l))) = bodyX x (r.filter fun l => !(decide (m <+: nmL l))) := rfl
  rw [e3, e1, e2]
  have := (sum_filter (fun y => (pieceB y (nmL y)).length) (fun l => !(decide (m <+: nmL l))) r).2 ⟨l, hlr, by rw [hlm]; simp, by have := piece_min l (nmL l); omega⟩
  omega
theorem pack_last {t : List Lf} {L : List Int} (h : packX t = (L, 0)) (h2 : 2 ≤ t.length) : ∃ L', packX (t.take (t.length - 1)) = (L', 0) ∧ L'.length < L.length := by
  obtain ⟨x, r, rfl, k1, k2, k3, k4, rfl⟩ := packX_ok h
  have hr : 1 ≤ r.length := by simpa using h2
  have hre : r = r.take (r.length - 1) ++ r.drop (r.length - 1) := (List.take_append_drop _ _).symm
  have ht : (x :: r).take ((x :: r).length - 1) = x :: r.take (r.length - 1) := by
    rw [List.length_cons, Nat.add_sub_cancel]
    obtain ⟨k, hk⟩ : ∃ k, r.length = k + 1 := ⟨r.length - 1, by omega⟩
    rw [hk, List.take_succ_cons, Nat.add_sub_cancel]
  rw [ht]
  have k4' : restB [] true (r.take (r.length - 1)) = true := by
    rw [hre] at k4
    exact restB_app _ _ _ _ k4
  refine ⟨_, packX_good k1 k2 k3 k4', ?_⟩
  have e1 := body_len x (r.take (r.length - 1))
  have e2 := body_len x r
  have e3 : bodyP x (r.take (r.length - 1)) = bodyX x (r.take (r.length - 1)) := rfl
  rw [e3, e1, e2]
  have e4 : (r.map fun y => (pieceB y (nmL y)).length).sum = ((r.take (r.length - 1)).map fun y => (pieceB y (nmL y)).length).sum + ((r.drop (r.length - 1)).map fun y => (pieceB y (nmL y)).length).sum := by
    conv => lhs; rw [hre]
    rw [List.map_append, List.sum_append]
  obtain ⟨z, hz⟩ : ∃ z, r.drop (r.length - 1) = [z] := by
    have : (r.drop (r.length - 1)).length = 1 := by rw [List.length_drop]; omega
    exact List.length_eq_one_iff.1 this
  rw [hz] at e4
  simp only [List.map_cons, List.map_nil, List.sum_cons, List.sum_nil] at e4
  have := piece_min z (nmL z)
  omega
/-! ### Paths as texts: what lies at or below a place -/
theorem pre_part {s u : List UInt8} : ∀ {a b : List UInt8}, (47 : UInt8) ∉ a → (47 : UInt8) ∉ b → (u = [] ∨ ∃ v, u = 47 :: v) → (a ++ 47 :: s) <+: (b ++ u) → a = b ∧ (47 :: s) <+: u := by
  intro a
  induction a with
  | nil =>
    intro b _ hb hu h
    cases b with
    | nil => exact ⟨rfl, h⟩
    | cons c b =>
      rw [List.nil_append, List.cons_append, List.cons_prefix_cons] at h
      exact absurd (by rw [← h.1]; exact List.mem_cons_self) hb
  | cons c a ih =>
    intro b ha hb hu h
    cases b with
    | nil =>
      rcases hu with e | ⟨v, e⟩
      · rw [e] at h; simp at h
      · rw [e, List.nil_append, List.cons_append, List.cons_prefix_cons] at h
        exact absurd (by rw [h.1]; exact List.mem_cons_self) ha
    | cons d b =>
      rw [List.cons_append, List.cons_append, List.cons_prefix_cons] at h
      obtain ⟨e1, e2⟩ := ih (fun h => ha (List.mem_cons_of_mem _ h)) (fun h => hb (List.mem_cons_of_mem _ h)) hu h.2
      exact ⟨by rw [h.1, e1], e2⟩
def flatP (ns : List ByteArray) : List UInt8 := ns.flatMap fun n => 47 :: n.data.toList
theorem flatP_form (ns : List ByteArray) : flatP ns = [] ∨ ∃ v, flatP ns = 47 :: v := by
  cases ns with
  | nil => exact .inl rfl
  | cons n r => exact .inr ⟨_, by unfold flatP; rw [List.flatMap_cons]; rfl⟩
theorem flatP_pre : ∀ (m n : List ByteArray), (∀ x ∈ m, nameB x = true) → (∀ x ∈ n, nameB x = true) → ((flatP m ++ [47]) <+: flatP n ↔ m <+: n ∧ m ≠ n) := by
  intro m
  induction m with
  | nil =>
    intro n _ _
    cases n with
    | nil => simp [flatP]
    | cons y n => simp [flatP]
  | cons x m ih =>
    intro n hm hn
    cases n with
    | nil => simp [flatP]
    | cons y n =>
      have h47x := (nameB_all (hm x List.mem_cons_self)).2.1
      have h47y := (nameB_all (hn y List.mem_cons_self)).2.1
      have ih' := ih n (fun z hz => hm z (List.mem_cons_of_mem _ hz)) (fun z hz => hn z (List.mem_cons_of_mem _ hz))
      have e1 : flatP (x :: m) ++ [47] = 47 :: (x.data.toList ++ (flatP m ++ [47])) := by unfold flatP; rw [List.flatMap_cons]; simp
      have e2 : flatP (y :: n) = 47 :: (y.data.toList ++ flatP n) := by unfold flatP; rw [List.flatMap_cons]; simp
      have e3 : ∃ s, flatP m ++ [47] = 47 :: s := by
        rcases flatP_form m with e | ⟨v, e⟩
        · exact ⟨[], by rw [e]; rfl⟩
        · exact ⟨v ++ [47], by rw [e]; rfl⟩
      obtain ⟨s, hs⟩ := e3
      rw [e1, e2, List.cons_prefix_cons, List.cons_prefix_cons, hs]
      constructor
      · rintro ⟨_, h⟩
        obtain ⟨k1, k2⟩ := pre_part h47x h47y (flatP_form n) h
        have hxy : x = y := bs_ext k1
        rw [← hs] at k2
        obtain ⟨k3, k4⟩ := ih'.1 k2
        exact ⟨⟨hxy, k3⟩, fun e => k4 (by injection e)⟩
      · rintro ⟨⟨rfl, h1⟩, h2⟩
        refine ⟨rfl, ?_⟩
        rw [← hs]
        exact (List.prefix_append_right_inj _).2 (ih'.2 ⟨h1, fun e => h2 (by rw [e])⟩)
theorem pathL_pre {m n : List ByteArray} (hm0 : m ≠ []) (hm : ∀ x ∈ m, nameB x = true) (hn : ∀ x ∈ n, nameB x = true) : ((pathL m ++ [47]) <+: pathL n ↔ m <+: n ∧ m ≠ n) := by
  have e1 : pathL m = flatP m := by unfold pathL; rw [if_neg hm0]; rfl
  rw [e1]
  by_cases h : n = []
  · subst h
    have e2 : pathL ([] : List ByteArray) = [47] := rfl
    rw [e2]
    constructor
    · intro h
      have := h.length_le
      rcases flatP_form m with e | ⟨v, e⟩
      · exfalso
        cases m with
        | nil => exact hm0 rfl
        | cons x m => unfold flatP at e; rw [List.flatMap_cons] at e; cases e
      · rw [e] at this; simp at this
    · rintro ⟨h1, _⟩
      exact absurd (List.prefix_nil.1 h1) hm0
  · have e2 : pathL n = flatP n := by unfold pathL; rw [if_neg h]; rfl
    rw [e2]
    exact flatP_pre m n hm hn
theorem restB_pw : ∀ (r : List Lf) (ahead : List ByteArray) (dir : Bool), restB ahead dir r = true → (ahead :: r.map nmL).Pairwise fun a b => behindX ltB a b = true := by
  intro r
  induction r with
  | nil => intro _ _ _; simp
  | cons l r ih =>
    intro ahead dir h
    rw [restB, Bool.and_eq_true, Bool.and_eq_true, Bool.and_eq_true] at h
    obtain ⟨⟨⟨h1, h2⟩, h3⟩, h4⟩ := h
    have hp := ih _ _ h4
    simp only [stepX, Bool.and_eq_true] at h3
    rw [List.map_cons, List.pairwise_cons]
    refine ⟨?_, hp⟩
    intro b hb
    rcases List.mem_cons.1 hb with e | e
    · rw [e]; exact h3.1.1
    · rw [List.pairwise_cons] at hp
      exact behind_trans ltB (fun a => ltB_irr a) ltB_tr _ _ _ h3.1.1 (hp.1 b e)
/-- the names of the leaves of a tree that may be -/
theorem pack_names {t : List Lf} {L : List Int} (h : packX t = (L, 0)) : (∀ l ∈ t, l.path.data.toList = pathL (nmL l) ∧ (∀ x ∈ nmL l, nameB x = true)) ∧ (∀ (i j : Nat) (a b : Lf), t[i]? = some a → t[j]? = some b → nmL a = nmL b → i = j) ∧ (∀ (i : Nat) (a : Lf), t[i]? = some a → 1 ≤ i → nmL a ≠ []) := by
  obtain ⟨x, r, rfl, h1, h2, h3, h4, _⟩ := packX_ok h
  have hnx : nmL x = [] := by unfold nmL; rw [h1, nm_root]; rfl
  have hall := restB_all r _ _ h4
  have hpw := restB_pw r _ _ h4
  have hmap : ([] : List ByteArray) :: r.map nmL = (x :: r).map nmL := by rw [List.map_cons, hnx]
  rw [hmap] at hpw
  refine ⟨fun l hl => ?_, ?_, ?_⟩
  · rcases List.mem_cons.1 hl with e | e
    · rw [e, hnx, h1]; exact ⟨rfl, fun y hy => by cases hy⟩
    · obtain ⟨g1, g2, _, _⟩ := namesP_good (hall l e).2.1
      exact ⟨g1, g2⟩
  · have key : ∀ (i j : Nat) (a b : Lf), (x :: r)[i]? = some a → (x :: r)[j]? = some b → i < j → nmL a ≠ nmL b := fun i j a b hi hj hij e => by
      have li : i < ((x :: r).map nmL).length := by rw [List.length_map]; exact (List.getElem?_eq_some_iff.1 hi).1
      have lj : j < ((x :: r).map nmL).length := by rw [List.length_map]; exact (List.getElem?_eq_some_iff.1 hj).1
      have := List.pairwise_iff_getElem.1 hpw i j li lj hij
      have ea : ((x :: r).map nmL)[i] = nmL a := by
        have h5 : ((x :: r).map nmL)[i]? = some (nmL a) := by rw [List.getElem?_map, hi]; rfl
        rw [List.getElem?_eq_getElem li] at h5
        injection h5
      have eb : ((x :: r).map nmL)[j] = nmL b := by
        have h5 : ((x :: r).map nmL)[j]? = some (nmL b) := by rw [List.getElem?_map, hj]; rfl
        rw [List.getElem?_eq_getElem lj] at h5
        injection h5
      rw [ea, eb, e, behind_irr] at this
      cases this
    intro i j a b hi hj e
    rcases Nat.lt_trichotomy i j with h5 | h5 | h5
    · exact absurd e (key i j a b hi hj h5)
    · exact h5
    · exact absurd e.symm (key j i b a hj hi h5)
  · intro i a hi h5
    obtain ⟨k, rfl⟩ : ∃ k, i = k + 1 := ⟨i - 1, by omega⟩
    rw [List.getElem?_cons_succ] at hi
    exact (hall a (List.mem_of_getElem? hi)).2.2
end Go.Proofs.YtlnaeppbhjmocaaDoor
set_option linter.unusedSimpArgs false
set_option linter.unusedVariables false
namespace Go.Proofs.YtlnaeppbhjmocaaDoor
open Go.RowKit Go.Proofs Go.Proofs.YtlnaeppbhjmocaaDoorW.PrintWords Go.Proofs.YtlnaeppbhjmocaaDoorW.PrintMore

end Go.Proofs.YtlnaeppbhjmocaaDoor
set_option linter.unusedSimpArgs false
set_option linter.unusedVariables false
namespace Go.Proofs.YtlnaeppbhjmocaaDoor
open Go.RowKit Go.Proofs Go.Proofs.YtlnaeppbhjmocaaDoorW.PrintWords Go.Proofs.YtlnaeppbhjmocaaDoorW.PrintMore

end Go.Proofs.YtlnaeppbhjmocaaDoor
set_option linter.unusedSimpArgs false
set_option linter.unusedVariables false
namespace Go.Proofs.YtlnaeppbhjmocaaDoor
open Go.RowKit Go.Proofs Go.Proofs.YtlnaeppbhjmocaaDoorW.PrintWords Go.Proofs.YtlnaeppbhjmocaaDoorW.PrintMore

/-- a leaf's data with marked room behind them, in a list of the call's own -/
def RoomO (w : World) (B : Nat) (p : Lf × Value) : Prop := ∃ gd cd, p.2 = .slice (some ⟨gd, 0, none⟩) p.1.data.length cd ∧ OwnB w B (.slice (some ⟨gd, 0, none⟩) (full70 p.1.data).length cd) (full70 p.1.data)
theorem RoomO.fr {w w' : World} {B : Nat} {p : Lf × Value} (h : RoomO w B p) (q : Fr w w') : RoomO w' B p := by
  obtain ⟨gd, cd, h1, h2⟩ := h
  exact ⟨gd, cd, h1, OwnB.fr h2 q⟩
theorem RoomO.own {w w' : World} {B b s n : Nat} {p : Lf × Value} {e : TypeId} {v : Value} {xs : List Value} (h : RoomO w B p) (q : w.grownBy w' v.ownBlock) (O : w.ownsRow b e s v n xs) (ht : 5 ≠ e) : RoomO w' B p := by
  obtain ⟨gd, cd, h1, h2⟩ := h
  exact ⟨gd, cd, h1, World.ownsRow.kept h2 q (own_ne2 h2 O ht)⟩
theorem RoomO.blk {w w' : World} {B g : Nat} {p : Lf × Value} {cs : Array Value} {t : TypeId} (h : RoomO w B p) (q : w.grownBy w' (some g)) (H : w.heap[g]? = some (.cells cs t (0, 0))) (ht : 5 ≠ t) : RoomO w' B p := by
  obtain ⟨gd, cd, h1, h2⟩ := h
  exact ⟨gd, cd, h1, own_grown h2 q H ht⟩
/-- leaves put behind a row of them -/
theorem append_leaves {w0 : World} (hw0 : Ok w0) (v : Value) (n m k : Nat) (xs news : List Value) (w : World) (f : Fr w0 w) (hk : n + m = k) (hm : 0 < m) (hnl : news.length = m * 6) (h1 : ∀ u ∈ news, u.oneCell' = true) (ho : w.ownsRow w0.heap.size 45 6 v n xs) (hl : k ≤ 1073741824) :
    ∃ g w1 ga d' w', w.heap.size = g ∧ w.alloc (.cells news.toArray 45) = w1 ∧ (Builtin.append_ #[26, 26] 26 #[v, .slice (some ⟨g, 0, none⟩) m m]).run Tryd.prog w1 = .ok (.slice (some ⟨ga, 0, none⟩) k d') w' ∧
      w'.ownsRow w0.heap.size 45 6 (.slice (some ⟨ga, 0, none⟩) k d') k (xs ++ news) ∧ Fr w0 w' ∧ k ≤ d' ∧ (∀ B p, RoomO w B p → RoomO w' B p) ∧ (∀ g' cs t, w.heap[g']? = some (.cells cs t (0, 0)) → some g' ≠ v.ownBlock → w'.heap[g']? = some (.cells cs t (0, 0))) := by
  subst hk
  obtain ⟨i, hi, hz, hs, hby⟩ := info_leaf
  have f1 : Fr w (w.alloc (.cells news.toArray 45)) := (Fr.refl f.ok).alloc _
  have O1 := own_fr ho f1
  have H := World.alloc_heap_new w (.cells news.toArray 45)
  obtain ⟨v', w', hr, O, q, _⟩ := append_src Tryd.underlying26 hi hz hs hby rfl (by decide) 26 O1 (some ⟨w.heap.size, 0, none⟩) m m news (by have := Src.lit H m m; simpa using this) hnl h1 (by unfold maxLen; omega) (by omega) (f.trans f1).size
  obtain ⟨ga, d', hv, hcap, _⟩ := World.ownsRow.form O (by omega)
  subst hv
  refine ⟨_, _, ga, d', w', rfl, rfl, hr, O, (f.trans f1).row hw0 q (own_base' O1), own_cap O, fun B p hp => (hp.fr f1).own q O1 (by decide), fun g' cs t hg' hne => grown_blk' q (f1.heap hg') hne⟩

end Go.Proofs.YtlnaeppbhjmocaaDoor
set_option linter.unusedSimpArgs false
set_option linter.unusedVariables false
namespace Go.Proofs.YtlnaeppbhjmocaaDoor
open Go.RowKit Go.Proofs Go.Proofs.YtlnaeppbhjmocaaDoorW.PrintWords Go.Proofs.YtlnaeppbhjmocaaDoorW.PrintMore

def keepL (m : List ByteArray) (l : Lf) : Bool := !(decide (m <+: nmL l))
theorem map_filter (m : List ByteArray) (tv : List (Lf × Value)) : (tv.filter fun q => keepL m q.1).map Prod.fst = (tv.map Prod.fst).filter (keepL m) := by
  rw [List.filter_map]; rfl
theorem sum_take (f : Lf → Nat) (r : List Lf) (k : Nat) : ((r.take k).map f).sum ≤ (r.map f).sum := by
  conv => rhs; rw [← List.take_append_drop k r]
  rw [List.map_append, List.sum_append]
  omega
/-- a part of a tree that is within the bounds is so too -/
theorem TIn.part {w W : World} {A : Option Addr} {c : Nat} {tv : List (Lf × Value)} (h : TIn w A c tv) {a : Option Addr} {d : Nat} {tvf : List (Lf × Value)} (hL : LAt W a tvf) (hd : tvf.length ≤ d) (hsub : ∀ p ∈ tvf, p ∈ tv) (hlen : tvf.length ≤ tv.length)
    (hsum : ((tvf.map Prod.fst).map fun l => 256 + 6 * l.data.length).sum ≤ ((tv.map Prod.fst).map fun l => 256 + 6 * l.data.length).sum) : TIn W a d tvf where
  at_ := hL
  cap := hd
  len := Nat.le_trans hlen h.len
  path := fun p hp => h.path p (hsub p hp)
  stamp := fun p hp => h.stamp p (hsub p hp)
  sum := by
    have e1 : ∀ l : List (Lf × Value), (l.map fun p => 256 + 6 * p.1.data.length) = (l.map Prod.fst).map (fun l => 256 + 6 * l.data.length) := fun l => by rw [List.map_map]; rfl
    have := h.sum
    rw [e1] at this ⊢
    omega
  bytes := fun p hp => h.bytes p (hsub p hp)
/-- what is asked of a tree with fewer leaves -/
structure FewC (w : World) (L : List Int) (a : Option Addr) (n d : Nat) : Prop where
  it : ∃ (tvf : List (Lf × Value)) (L' : List Int), tvf.length = n ∧ packX (tvf.map Prod.fst) = (L', 0) ∧ L'.length < L.length ∧ TIn w a d tvf
theorem LAt.take {w : World} {A : Option Addr} {tv : List (Lf × Value)} (h : LAt w A tv) (k : Nat) : LAt w A (tv.take k) := by
  refine ⟨?_, fun p hp => h.2 p (List.mem_of_mem_take hp)⟩
  rcases h.1 with h1 | ⟨g, o, hA, hg, h1⟩
  · have : tv = [] := by simpa using h1
    subst this
    exact .inl (by simp)
  · refine .inr ⟨g, o, hA, hg, fun i c hi j v hj hv => h1 i c ?_ j v hj hv⟩
    rw [List.getElem?_map, List.getElem?_take] at hi
    rw [List.getElem?_map]
    split at hi
    · exact hi
    · simp at hi
/-- is a text the beginning of another -/
theorem pre_ext (p s : ByteArray) : (p.data.toList <+: s.data.toList) ↔ (p.size ≤ s.size ∧ (s.extract 0 p.size).toList = p.toList) := by
  have he : (s.extract 0 p.size).toList = s.data.toList.take p.size := by
    rw [toL]
    simp
  rw [he, toL]
  have hl : p.data.toList.length = p.size := rfl
  have hl2 : s.data.toList.length = s.size := rfl
  constructor
  · intro h
    exact ⟨by rw [← hl, ← hl2]; exact h.length_le, by rw [← hl]; exact (List.prefix_iff_eq_take.1 h).symm⟩
  · rintro ⟨_, h⟩
    rw [← h]
    exact List.take_prefix _ _
theorem keep_iff {t : List Lf} {L : List Int} (h : packX t = (L, 0)) {p : Nat} {lp : Lf} (hp : t[p]? = some lp) (h1 : 1 ≤ p) {i : Nat} {l : Lf} (hi : t[i]? = some l) (pp : ByteArray) (hpp : pp = lp.path ++ ⟨#[47]⟩) :
    keepL (nmL lp) l = true ↔ (i ≠ p ∧ ¬ (pp.size ≤ l.path.size ∧ (l.path.extract 0 pp.size).toList = pp.toList)) := by
  obtain ⟨k1, k2, k3⟩ := pack_names h
  have hpl := k1 lp (List.mem_of_getElem? hp)
  have hll := k1 l (List.mem_of_getElem? hi)
  have hne := k3 p lp hp h1
  have hpd : pp.data.toList = pathL (nmL lp) ++ [47] := by
    rw [hpp, ByteArray.data_append]
    simp [hpl.1]
  rw [← pre_ext pp l.path, hpd, hll.1, pathL_pre hne hpl.2 hll.2]
  unfold keepL
  simp only [Bool.not_eq_true', decide_eq_false_iff_not]
  constructor
  · intro h5
    refine ⟨fun e => ?_, fun h6 => h5 h6.1⟩
    subst e
    rw [hp] at hi
    injection hi with hi
    subst hi
    exact h5 (List.prefix_refl _)
  · rintro ⟨h5, h6⟩ h7
    by_cases e : nmL lp = nmL l
    · exact h5 (k2 i p l lp hi hp e.symm)
    · exact h6 ⟨h7, e⟩

set_option maxRecDepth 100000 in
set_option maxHeartbeats 6400000 in
theorem law_Fewer (A : Option Addr) (c : Nat) (tv : List (Lf × Value)) (pl : Int) (w : World) (hw : Ok w) (hg : 4 ≤ w.heap.size) (hT : TIn w A c tv) :
    Calls Tryd.prog 9 #[.slice A tv.length c, .int .i64 pl] w fun e w' => e = .returned (.bool true) ∧ Fr w w' := by
  have hB0 : 0 < w.heap.size := by omega
  obtain ⟨⟨L, er⟩, hP⟩ : ∃ P, packX (tv.map Prod.fst) = P := ⟨_, rfl⟩
  have HPk := Lib.hid (fun W (q : Fr w W) => hT.pack q hB0)
  rw [hP] at HPk
  dsimp only at HPk
  have HHe := Lib.hid (heads_any w hw hg)
  have HNo := Lib.hid (fun x W (q : Fr w W) => no_any x W q.ok)
  obtain ⟨n, hn⟩ : ∃ n, tv.length = n := ⟨_, rfl⟩
  by_cases he : er = 0
  · subst he
    have hE0 : ((0 : Int) != 0) = false := rfl
    by_cases hin : 1 ≤ pl ∧ pl < (n : Int)
    · obtain ⟨p, rfl⟩ : ∃ p : Nat, pl = (p : Int) := ⟨pl.toNat, by omega⟩
      have c1 : ¬ ((p : Int) < 1) := by omega
      have c2 : ¬ ((n : Int) ≤ (p : Int)) := by omega
      have cd1 : decide (n ≤ p) = false := decide_eq_false (by omega)
      have cd2 : decide ((p : Int) < 1) = false := decide_eq_false (by omega)
      have c3 : (0 : Int) ≤ (p : Int) := by omega
      have c4 : (p : Int) < (n : Int) := by omega
      have hp1 : 1 ≤ p := by omega
      have hpn : p < n := by omega
      obtain ⟨⟨lp, lpv⟩, hlp⟩ : ∃ q, tv[p]? = some q := ⟨_, List.getElem?_eq_getElem (by omega)⟩
      have hlp2 : (tv.map Prod.fst)[p]? = some lp := by rw [List.getElem?_map, hlp]; rfl
      obtain ⟨pp, hpp⟩ : ∃ pp, lp.path ++ ⟨#[47]⟩ = pp := ⟨_, rfl⟩
      have hpps : pp.size = lp.path.size + 1 := by rw [← hpp, ByteArray.size_append]; rfl
      have hps := hT.path _ (List.mem_of_getElem? hlp)
      dsimp only at hps
      have HKeep : Hid (∀ (i : Nat) (l : Lf) (lv : Value), tv[i]? = some (l, lv) → (keepL (nmL lp) l = true ↔ (i ≠ p ∧ ¬ (pp.size ≤ l.path.size ∧ (l.path.extract 0 pp.size).toList = pp.toList)))) := Lib.hid (fun i l lv hi => keep_iff hP hlp2 hp1 (by rw [List.getElem?_map, hi]; rfl) pp hpp.symm)
      obtain ⟨gT, oT, hA, hgT, hcells⟩ := hT.at_.1.resolve_left (by rw [List.map_eq_nil_iff]; intro e; rw [e] at hn; simp at hn; omega)
      have hcell : ∀ (i : Nat) q, tv[i]? = some q → ∀ j v, (lcell q)[j]? = some v → w.cell? ⟨gT, oT + i * 6 + j, none⟩ = some v := fun i q hi j v hv => hcells i (lcell q) (by rw [List.getElem?_map, hi]; rfl) j v (by
        have h1 := (List.getElem?_eq_some_iff.1 hv).1
        have h2 : (lcell q).length = 6 := rfl
        omega) hv
      have HCell := Lib.hid hcell
      have HLf : Hid (∀ i, i < n → ∃ (l : Lf) (da : Option Addr) (dd : Nat), tv[i]? = some (l, .slice da l.data.length dd) ∧ l.path.size ≤ 1048575) := Lib.hid (fun i h2 => by
        obtain ⟨⟨l, lv⟩, hq⟩ : ∃ q, tv[i]? = some q := ⟨_, List.getElem?_eq_getElem (by omega)⟩
        have hm := List.mem_of_getElem? hq
        obtain ⟨da, dd, hlv, _⟩ := hT.at_.2 _ hm
        dsimp only at hlv
        subst hlv
        exact ⟨l, da, dd, hq, hT.path _ hm⟩)
      have HFew0 : Hid (∀ W, Fr w W → ∀ g d, W.ownsRow w.heap.size 45 6 (.slice (some ⟨g, 0, none⟩) (tv.filter fun q => keepL (nmL lp) q.1).length d) (tv.filter fun q => keepL (nmL lp) q.1).length (lflat (tv.filter fun q => keepL (nmL lp) q.1)) → FewC W L (some ⟨g, 0, none⟩) (tv.filter fun q => keepL (nmL lp) q.1).length d) := Lib.hid (fun W q g d O => by
        obtain ⟨k1, k2, k3⟩ := pack_names hP
        obtain ⟨L', e1, e2⟩ := pack_fewer hP (m := nmL lp) (k3 p lp hlp2 hp1) (List.mem_of_getElem? hlp2) rfl
        have hmf := map_filter (nmL lp) tv
        refine ⟨_, L', rfl, by rw [hmf]; exact e1, e2, hT.part ⟨own_Row (xs := []) (lcell_len _) (by rw [List.append_nil]; exact O), fun y hy => ?_⟩ (own_cap O) (fun y hy => (List.mem_filter.1 hy).1) (List.length_filter_le _ _) ?_⟩
        · obtain ⟨a', d', h1, h2, h3, h4⟩ := hT.at_.2 y (List.mem_filter.1 hy).1
          exact ⟨a', d', h1, h2.fr q, h3, h4⟩
        · rw [hmf]; exact (sum_filter _ _ _).1)
      have HFew1 : Hid (∀ W, Fr w W → FewC W L A (n - 1) c) := Lib.hid (fun W q => by
        obtain ⟨L', e1, e2⟩ := pack_last hP (by rw [List.length_map]; omega)
        rw [List.length_map, ← List.map_take, hn] at e1
        exact ⟨_, L', by rw [List.length_take]; omega, e1, e2, hT.part ((hT.at_.fr q).take (n - 1)) (by have := hT.cap; rw [List.length_take]; omega) (fun y hy => List.mem_of_mem_take hy) (by rw [List.length_take]; omega) (by rw [List.map_take]; exact sum_take _ _ _)⟩)
      have HPos : Hid (0 < (tv.filter fun q => keepL (nmL lp) q.1).length) := Lib.hid (by
        obtain ⟨k1, k2, k3⟩ := pack_names hP
        obtain ⟨x, r, hxr, hx1, _⟩ := packX_ok hP
        obtain ⟨q0, hq0⟩ : ∃ q, tv[0]? = some q := ⟨_, List.getElem?_eq_getElem (by omega)⟩
        have hx : (tv.map Prod.fst)[0]? = some q0.1 := by rw [List.getElem?_map, hq0]; rfl
        have hxe : q0.1 = x := by rw [hxr] at hx; injection hx with e; exact e.symm
        have hnx : nmL x = [] := by unfold nmL; rw [hx1, nm_root]; rfl
        refine List.length_pos_of_mem (List.mem_filter.2 ⟨List.mem_of_getElem? hq0, ?_⟩)
        unfold keepL
        rw [hxe, hnx]
        simp only [Bool.not_eq_true', decide_eq_false_iff_not, List.prefix_nil]
        exact k3 p lp hlp2 hp1)
      have hT20 : n ≤ 1048576 := by rw [← hn]; exact hT.len
      have HTV := Lib.hid hn
      have HLP := Lib.hid (And.intro hlp hlp2)
      rw [hn] at HPk ⊢
      subst hA
      clear hP hT hn hin hcells hcell hlp hlp2
      go_enter Tryd.func9, Tryd.ntmps9
      go_upto_region 6 with (first
        | (go_at_call 24; refine HHe.out.mono ?_; rintro e w1 ⟨rfl, q⟩)
        | (go_at_call 21; refine (HPk.out _ q).mono ?_; rintro e w4 ⟨v4, rfl, O4, q4⟩; replace q := q.trans q4; clear q4; go_loud (obtain ⟨a4, d4, rfl⟩ := O4.form))
        | (go_at_call 16; refine (HNo.out 0 _ q).mono ?_; rintro e w5 ⟨rfl, q5⟩; replace q := q.trans q5; clear q5))
      have b0 := q.cell (HCell.out p _ HLP.out.1 0 _ rfl)
      simp only [Nat.add_zero] at b0
      clear O4 c1 c2 hpn
      go_wp2_with fail
      obtain ⟨pz, hpz⟩ : ∃ z, pp.size = z := ⟨_, rfl⟩
      rw [hpz] at HKeep hpps
      have hpzl : pz ≤ 1048576 := by omega
      clear hpps
      have HN1 := Lib.hid (show 1 ≤ n by omega)
      clear c3 c4 hp1
      go_loopg [8, 9] n (fun k v8 v9 wc => ∃ (i : Nat) (tvs : List (Lf × Value)), i + k = n ∧ v9 = .int .i64 i ∧ Hid (tvs = (tv.take i).filter fun q => keepL (nmL lp) q.1) ∧ Hid (wc.ownsRow w.heap.size 45 6 v8 tvs.length (lflat tvs)) ∧ Hid (Fr w wc))
      case atStart => exact ⟨0, [], by omega, rfl, Lib.hid rfl, Lib.hid ⟨rfl, .inl ⟨rfl, rfl⟩⟩, Lib.hid q⟩
      case round =>
        clear b0 q
        obtain ⟨i, tvs, hik, rfl, HTs, HO, HF⟩ := hrel
        cases gk with
        | zero =>
          obtain rfl : i = n := by omega
          have d5 : decide ((i : Int) < (i : Int)) = false := decide_eq_false (by omega)
          have hte : tvs = tv.filter fun q => keepL (nmL lp) q.1 := by rw [HTs.out, List.take_of_length_le (by have := HTV.out; omega)]
          have hpos := HPos.out
          rw [← hte] at HFew0 hpos
          have hO := HO.out
          obtain ⟨g8, c8, hv8, _, _⟩ := World.ownsRow.form hO hpos
          subst hv8
          have HF0 := Lib.hid (HFew0.out _ HF.out g8 c8 hO)
          obtain ⟨n8, hn8⟩ : ∃ m, tvs.length = m := ⟨_, rfl⟩
          rw [hn8] at HF0 ⊢
          clear hn8 hO HO hpos hte HTs HFew0 HKeep hpz
          obtain ⟨n1, hn1⟩ : ∃ m, i - 1 = m := ⟨_, rfl⟩
          have e1 : (i : Int) - 1 = (n1 : Int) := by have := HN1.out; omega
          have hFe : Hid (∀ W, Fr wr W → ∀ (a : Option Addr) (nf d : Nat), FewC wr L a nf d → ∃ L' : List Int, L'.length < L.length ∧ L'.length ≤ 536870932 ∧
              (∃ TT : List Lf, Calls Tryd.prog 21 #[.slice a nf d] W (fun e w' => ∃ v, e = .returned (.tuple #[v, .int .i64 0]) ∧ OwnB w' W.heap.size v L' ∧ Fr W w') ∧
              (∀ W2, Fr W W2 → ∀ A2 c2, BytesAt W2 A2 L' → L'.length ≤ c2 → Calls Tryd.prog 15 #[.slice A2 L'.length c2] W2 (fun e w' => ∃ v, e = .returned (.tuple #[v, .int .i64 0]) ∧ Fr W2 w' ∧ TreeAt w' W2.heap.size v TT)) ∧
              (∀ W2, Fr W W2 → ∀ v2 B2, TreeAt W2 B2 v2 TT → Calls Tryd.prog 17 #[v2, .slice a nf d] W2 (fun e w' => e = .returned (.bool true) ∧ Fr W2 w')))) := Lib.hid (fun W q a nf d hF => by
            obtain ⟨tvf, L', h1, h2, h3, hTf⟩ := hF.it
            have hd : ∀ l ∈ tvf.map Prod.fst, bytesOk l.data := fun l hl => by obtain ⟨p, hp, rfl⟩ := List.mem_map.1 hl; exact hTf.bytes p hp
            have hst : ∀ l ∈ tvf.map Prod.fst, 0 ≤ l.stamp ∧ l.stamp ≤ 18446744073709551615 := fun l hl => by obtain ⟨p, hp, rfl⟩ := List.mem_map.1 hl; exact hTf.stamp p hp
            obtain ⟨hLb, hLl, -⟩ := packX_bytes h2 hd
            have hLl2 : L'.length ≤ 536870932 := by
              have h := hTf.sum
              rw [List.map_map] at hLl
              have e : ((fun l : Lf => 256 + 6 * l.data.length) ∘ Prod.fst) = fun p : Lf × Value => 256 + 6 * p.1.data.length := rfl
              rw [e] at hLl
              omega
            have hmore := pack_more h2 hst []
            rw [List.append_nil, if_pos rfl] at hmore
            have hws := HF.out.size
            refine ⟨L', h3, hLl2, tvf.map Prod.fst, ?_, ?_, ?_⟩
            · have := hTf.pack q (by omega)
              rw [h1, h2] at this
              exact this
            · intro W2 q2 A2 c2 hb hc
              have := pread_any A2 c2 L' W2 q2.ok hb hLb hc (by omega) (by have := q.size; have := q2.size; omega)
              rw [hmore] at this
              exact this
            · intro W2 q2 v2 B2 hT2
              have hln := hTf.len
              have := alike_in q2.ok hT2 (hTf.at_.fr (q.trans q2)) hTf.cap rfl (by rw [List.length_map]; omega) (fun p hp => by
                have h7 := packX_ok h2
                obtain ⟨x, r, hxr, _, _, hxo, hrest, _⟩ := h7
                have h8 : p.1 ∈ tvf.map Prod.fst := List.mem_map_of_mem hp
                rw [hxr] at h8
                have h9 : p.1.data.length ≤ 16777216 := by
                  rcases List.mem_cons.1 h8 with e | e
                  · rw [e]; exact (okL_ty hxo).2.2.2.2.1
                  · exact (okL_ty (restB_all r _ _ hrest _ e).1).2.2.2.2.1
                omega)
              rw [h1] at this
              exact this)
          have HF1 := Lib.hid (HFew1.out _ HF.out)
          have hn1c : (n1 : Int) ≤ (c : Int) := by
            obtain ⟨tvf, _, h1, _, _, h4⟩ := HF1.out.it
            have := h4.cap
            omega
          have e2 : (0 : Int) ≤ (n1 : Int) := by omega
          rw [hn1] at HF1
          clear hn1 HFew1 HPos HCell HLf HTV HLP
          go_wp2_with fail
          go_loopg [11] 2 (fun k v11 wc => ∃ (j : Nat), j + k = 2 ∧ v11 = .int .i64 j ∧ Hid (Fr wr wc))
          case atStart => exact ⟨0, rfl, rfl, Lib.hid (Fr.refl HF.out.ok)⟩
          case round =>
            obtain ⟨j, hjk, rfl, HFj⟩ := hrel
            cases gk with
            | zero =>
              obtain rfl : j = 2 := by omega
              go_wp2_with fail
              go_ret
              exact ⟨rfl, HF.out.trans HFj.out⟩
            | succ k =>
              rcases (by omega : j = 0 ∨ j = 1) with rfl | rfl
              · obtain ⟨L', hl1, hl2, TT, HP, HR, HA⟩ := hFe.out _ HFj.out _ _ _ HF0.out
                have hlt : ¬ ((L.length : Int) ≤ (L'.length : Int)) := by omega
                have HP := Lib.hid HP
                have HR := Lib.hid HR
                have HA := Lib.hid HA
                have f := Fr.refl HFj.out.ok
                clear hl1 hl2
                go_wp2_with (first
                  | (go_at_call 21; refine HP.out.mono ?_; rintro e w4 ⟨v4, rfl, O5, q5⟩; go_loud (obtain ⟨a5, d5, rfl⟩ := O5.form); replace f := f.trans q5; clear q5)
                  | (go_at_call 15; refine (HR.out _ f _ _ O5.at.1 O5.at.2.2).mono ?_; rintro e w8 ⟨v8, rfl, q8, T8⟩; replace f := f.trans q8; (obtain ⟨B8, T8'⟩ : ∃ B, TreeAt w8 B v8 TT := ⟨_, T8⟩); clear T8 q8)
                  | (go_at_call 16; refine (no_any 0 _ f.ok).mono ?_; rintro e w9 ⟨rfl, q9⟩; replace T8' := TreeAt.fr T8' q9; replace f := f.trans q9; clear q9)
                  | (go_at_call 17; refine (HA.out _ f _ _ T8').mono ?_; rintro e w10 ⟨rfl, q10⟩; replace f := f.trans q10; clear q10))
                go_roundg k
                case measure => omega
                case rel => exact ⟨1, by omega, by go_num, Lib.hid (HFj.out.trans f)⟩
              · obtain ⟨L', hl1, hl2, TT, HP, HR, HA⟩ := hFe.out _ HFj.out _ _ _ HF1.out
                have hlt : ¬ ((L.length : Int) ≤ (L'.length : Int)) := by omega
                have HP := Lib.hid HP
                have HR := Lib.hid HR
                have HA := Lib.hid HA
                have f := Fr.refl HFj.out.ok
                clear hl1 hl2
                go_wp2_with (first
                  | (go_at_call 21; refine HP.out.mono ?_; rintro e w4 ⟨v4, rfl, O5, q5⟩; go_loud (obtain ⟨a5, d5, rfl⟩ := O5.form); replace f := f.trans q5; clear q5)
                  | (go_at_call 15; refine (HR.out _ f _ _ O5.at.1 O5.at.2.2).mono ?_; rintro e w8 ⟨v8, rfl, q8, T8⟩; replace f := f.trans q8; (obtain ⟨B8, T8'⟩ : ∃ B, TreeAt w8 B v8 TT := ⟨_, T8⟩); clear T8 q8)
                  | (go_at_call 16; refine (no_any 0 _ f.ok).mono ?_; rintro e w9 ⟨rfl, q9⟩; replace T8' := TreeAt.fr T8' q9; replace f := f.trans q9; clear q9)
                  | (go_at_call 17; refine (HA.out _ f _ _ T8').mono ?_; rintro e w10 ⟨rfl, q10⟩; replace f := f.trans q10; clear q10))
                go_roundg k
                case measure => omega
                case rel => exact ⟨2, by omega, by go_num, Lib.hid (HFj.out.trans f)⟩
        | succ k =>
          have d5 : decide ((i : Int) < (n : Int)) = true := decide_eq_true (by omega)
          have d6 : (0 : Int) ≤ (i : Int) := by omega
          have d7 : (i : Int) < (n : Int) := by omega
          obtain ⟨l, da, dd, hq, hlps⟩ := HLf.out i (by omega)
          have hkp := HKeep.out i l _ hq
          have b0 := HF.out.cell (HCell.out i _ hq 0 _ rfl)
          have b1 := HF.out.cell (HCell.out i _ hq 1 _ rfl)
          have b2 := HF.out.cell (HCell.out i _ hq 2 _ rfl)
          have b3 := HF.out.cell (HCell.out i _ hq 3 _ rfl)
          have b4 := HF.out.cell (HCell.out i _ hq 4 _ rfl)
          have b5 := HF.out.cell (HCell.out i _ hq 5 _ rfl)
          simp only [Nat.add_zero] at b0
          have htl : tvs.length ≤ n := by
            rw [HTs.out]
            refine Nat.le_trans (List.length_filter_le _ _) ?_
            rw [List.length_take]; omega
          obtain ⟨pa, ty, mo, st, dat, tg⟩ := l
          dsimp only at b0 b1 b2 b3 b4 b5 hlps
          obtain ⟨dl, hdl⟩ : ∃ m, dat.length = m := ⟨_, rfl⟩
          rw [hdl] at b4
          dsimp only at hq
          rw [hdl] at hq
          have HQ := Lib.hid hq
          obtain ⟨w1, g1, hg1, hw1, f1, hz1, H1⟩ := boxedN HF.out.ok #[.string pa, .int .i64 ty, .int .i64 mo, .int .u64 st, .slice da dl dd, .string tg] 45
          obtain ⟨l0, l1, l2, l3, l4, l5⟩ := blk6 H1
          obtain ⟨ps, hps'⟩ : ∃ z, pa.size = z := ⟨_, rfl⟩
          rw [hps'] at hkp
          rw [hps'] at hlps
          clear hq hdl
          by_cases hip : i = p
          · have HKK : Hid (¬ (keepL (nmL lp) ⟨pa, ty, mo, st, dat, tg⟩ = true)) := Lib.hid (fun h => (hkp.1 h).1 hip)
            subst hip
            have e1 : ((i : Int) != (i : Int)) = false := bne_self_eq_false _
            clear hkp
            go_wp2_with fail
            go_roundg k
            case measure => omega
            case rel =>
              refine ⟨i + 1, tvs, by omega, by go_num, Lib.hid ?_, Lib.hid (own_fr HO.out f1), Lib.hid (HF.out.trans f1)⟩
              rw [List.take_add_one, HQ.out, List.filter_append, ← HTs.out, Option.toList_some, List.filter_cons, if_neg HKK.out]
              simp
          · have e1 : ((i : Int) != (p : Int)) = true := by rw [bne_iff_ne]; omega
            by_cases hlt : ps < pz
            · have HKK : Hid (keepL (nmL lp) ⟨pa, ty, mo, st, dat, tg⟩ = true) := Lib.hid (hkp.2 ⟨hip, fun h => by omega⟩)
              have e2 : (ps : Int) < (pz : Int) := by omega
              clear hkp hip
              obtain ⟨k1, hk1⟩ : ∃ k, tvs.length + 1 = k := ⟨_, rfl⟩
              obtain ⟨g4, w4, ga, d', w5, hg4, hw4, hap, O5, f5, hcap, -, -⟩ := append_leaves hw _ tvs.length 1 k1 _ [.string pa, .int .i64 ty, .int .i64 mo, .int .u64 st, .slice da dl dd, .string tg] w1 (HF.out.trans f1) hk1 (by decide) rfl (by simp [Value.oneCell']) (own_fr HO.out f1) (by omega)
              have HK1 := Lib.hid hk1
              have HO5 := Lib.hid O5
              have HF5 := Lib.hid f5
              clear hk1 O5 f5 hcap
              go_wp2_with (first
                | (at_builtin; refine wpList_append_run rfl _ _ 26 26 rfl (by simp [Act.eval]) (by simp [Act.eval]) hap ?_))
              go_roundg k
              case measure => omega
              case rel =>
                refine ⟨i + 1, tvs ++ [(⟨pa, ty, mo, st, dat, tg⟩, .slice da dl dd)], by omega, by go_num, Lib.hid ?_, Lib.hid ?_, HF5⟩
                · rw [List.take_add_one, HQ.out, List.filter_append, ← HTs.out, Option.toList_some, List.filter_cons, if_pos HKK.out]
                  rfl
                · have h9 := HO5.out
                  rw [List.length_append, lflat_snoc]
                  show w5.ownsRow _ _ _ _ (tvs.length + 1) _
                  rw [HK1.out]
                  exact h9
            · have e2 : ¬ ((ps : Int) < (pz : Int)) := by omega
              have e3 : (pz : Int) ≤ (ps : Int) := by omega
              have e4 : (0 : Int) ≤ (pz : Int) := by omega
              by_cases heq : (pa.extract 0 pz).toList = pp.toList
              · have HKK : Hid (¬ (keepL (nmL lp) ⟨pa, ty, mo, st, dat, tg⟩ = true)) := Lib.hid (fun h => (hkp.1 h).2 ⟨by omega, heq⟩)
                have e5 : ((pa.extract 0 pz).toList == pp.toList) = true := by rw [heq]; exact beq_self_eq_true _
                clear hkp hip heq
                go_wp2_with fail
                go_roundg k
                case measure => omega
                case rel =>
                  refine ⟨i + 1, tvs, by omega, by go_num, Lib.hid ?_, Lib.hid (own_fr HO.out f1), Lib.hid (HF.out.trans f1)⟩
                  rw [List.take_add_one, HQ.out, List.filter_append, ← HTs.out, Option.toList_some, List.filter_cons, if_neg HKK.out]
                  simp
              · have HKK : Hid (keepL (nmL lp) ⟨pa, ty, mo, st, dat, tg⟩ = true) := Lib.hid (hkp.2 ⟨hip, fun h => heq h.2⟩)
                have e5 : ((pa.extract 0 pz).toList == pp.toList) = false := by rw [beq_eq_false_iff_ne]; exact heq
                clear hkp hip heq
                obtain ⟨k1, hk1⟩ : ∃ k, tvs.length + 1 = k := ⟨_, rfl⟩
                obtain ⟨g4, w4, ga, d', w5, hg4, hw4, hap, O5, f5, hcap, -, -⟩ := append_leaves hw _ tvs.length 1 k1 _ [.string pa, .int .i64 ty, .int .i64 mo, .int .u64 st, .slice da dl dd, .string tg] w1 (HF.out.trans f1) hk1 (by decide) rfl (by simp [Value.oneCell']) (own_fr HO.out f1) (by omega)
                have HK1 := Lib.hid hk1
                have HO5 := Lib.hid O5
                have HF5 := Lib.hid f5
                clear hk1 O5 f5 hcap
                go_wp2_with (first
                  | (at_builtin; refine wpList_append_run rfl _ _ 26 26 rfl (by simp [Act.eval]) (by simp [Act.eval]) hap ?_))
                go_roundg k
                case measure => omega
                case rel =>
                  refine ⟨i + 1, tvs ++ [(⟨pa, ty, mo, st, dat, tg⟩, .slice da dl dd)], by omega, by go_num, Lib.hid ?_, Lib.hid ?_, HF5⟩
                  · rw [List.take_add_one, HQ.out, List.filter_append, ← HTs.out, Option.toList_some, List.filter_cons, if_pos HKK.out]
                    rfl
                  · have h9 := HO5.out
                    rw [List.length_append, lflat_snoc]
                    show w5.ownsRow _ _ _ _ (tvs.length + 1) _
                    rw [HK1.out]
                    exact h9
    · have hor : pl < 1 ∨ (1 ≤ pl ∧ (n : Int) ≤ pl) := by omega
      rw [hn] at HPk ⊢
      clear hin hP
      go_enter Tryd.func9, Tryd.ntmps9
      rcases hor with h | ⟨h1, h2⟩
      all_goals
        go_wp2_with (first
          | (go_at_call 24; refine HHe.out.mono ?_; rintro e w1 ⟨rfl, q⟩)
          | (go_at_call 21; refine (HPk.out _ q).mono ?_; rintro e w4 ⟨v4, rfl, O4, q4⟩; replace q := q.trans q4; clear q4; go_loud (obtain ⟨a4, d4, rfl⟩ := O4.form))
          | (go_at_call 16; refine (HNo.out 0 _ q).mono ?_; rintro e w5 ⟨rfl, q5⟩; replace q := q.trans q5; clear q5))
        exact ⟨rfl, _, results_tmp rfl _ _ _, rfl, q⟩
  · have hE0 : (er != 0) = true := by simp [he]
    rw [hn] at HPk ⊢
    clear hP
    go_enter Tryd.func9, Tryd.ntmps9
    go_wp2_with (first
      | (go_at_call 24; refine HHe.out.mono ?_; rintro e w1 ⟨rfl, q⟩)
      | (go_at_call 21; refine (HPk.out _ q).mono ?_; rintro e w4 ⟨v4, rfl, O4, q4⟩; replace q := q.trans q4; clear q4; go_loud (obtain ⟨a4, d4, rfl⟩ := O4.form))
      | (go_at_call 16; refine (HNo.out er _ q).mono ?_; rintro e w5 ⟨rfl, q5⟩; replace q := q.trans q5; clear q5))
    exact ⟨rfl, _, results_tmp rfl _ _ _, rfl, q⟩
end Go.Proofs.YtlnaeppbhjmocaaDoor
namespace Go.Proofs.YtlnaeppbhjmocaaDoor
open Go.ChangeShapes Go.WideShapes Go.RowKit

section
variable {H : Type} {enc : TypeId × Value → H} {P : Program}

theorem post_of_below {f : Func} {s : ChangeSpec} {apart fresh handsOn again : Bool} {W W' : World} {args : Array Value} {v : Value} {ds gs : List (DataW H)} {before pa pv : List MemPlace}
    (hW : DataW.Whole enc P f.params.toList s.vars apart W args.toList ds gs before)
    (hres : ∀ (b : Nat) (sp : Nat → Bool) (hd : Bool), DataW.TrodAll enc P W' b sp hd f.resultTypes.toList (v.resultList f.resultTypes.size) (s.fn H (ds ++ gs)).results [])
    (hargs : ∀ sp : Nat → Bool, (∀ p ∈ before, sp p.block = true) → DataW.TrodAll enc P W' 0 sp true f.params.toList args.toList (s.fn H (ds ++ gs)).args pa)
    (hvars : ∀ sp : Nat → Bool, (∀ p ∈ before, sp p.block = true) → DataW.TrodVars enc P W' sp s.vars (s.fn H (ds ++ gs)).vars pv)
    (hps : before = pa ++ pv) (hB : Below W.heap.size W W')
    (hok : ∀ (j : Nat) (t : TypeId) (r : Value), f.resultTypes[j]? = some t → (v.resultList f.resultTypes.size)[j]? = some r → Value.okWide P W' .any 0 t r) :
    s.post enc P f apart fresh handsOn again W args v W' := by
  have hold : ∀ p ∈ before, (fun b => decide (b < W.heap.size)) p.block = true := fun p hp => by simpa using hW.lt p hp
  have hlt : ∀ p ∈ before, p.block < W.heap.size := fun p hp => by simpa using hW.lt p hp
  refine ⟨ds, gs, before, [], pa, pv, hW, hres _ _ _, hargs _ hold, hvars _ hold, hB.frame _, fun _ => ?_⟩
  obtain ⟨_, _, _, _, _, hz, hn⟩ := hW
  refine ⟨hok, _, _, ([] ++ pa) ++ pv, ⟨[] ++ pa, pv, trodAll_append (hargs _ (fun _ _ => rfl)) (hres _ _ _), hvars _ (fun _ _ => rfl), rfl, ?_, ?_⟩, ?_⟩
  · intro b off hp
    have hm : MemPlace.cell b off ∈ before := by rw [hps]; simpa using hp
    rw [hB.frozen (p := ⟨b, off, none⟩) (hlt _ hm)]
    exact hz b off hm
  · intro ha
    have := hn ha
    rw [hps] at this
    simpa using this
  · intro p hp _
    rw [hps]
    simpa using hp

/-- the arguments read as they did -/
theorem trodAll_below (hl : laidOutB P = true) {W W' : World} (hB : Below W.heap.size W W') {sp : Nat → Bool} : ∀ {ts : List TypeId} {vs : List Value} {ds : List (DataW H)} {ps : List MemPlace},
    (∀ t ∈ ts, P.readableRec t = true ∧ t < P.types.size) → DataW.TrodAll enc P W 0 (fun _ => true) true ts vs ds ps → (∀ p ∈ ps, p.block < W.heap.size) → (∀ p ∈ ps, sp p.block = true) →
    DataW.TrodAll enc P W' 0 sp true ts vs ds ps
  | [], _, _, _, _, h, _, _ => by
    obtain ⟨rfl, rfl, rfl⟩ := trodAll_nil h
    exact trodAll_mk0
  | t :: ts, _, _, _, hr, h, hlt, hs => by
    obtain ⟨v, vs1, d, ds1, a, b, rfl, rfl, rfl, h1, h2⟩ := trodAll_cons h
    obtain ⟨hr1, hr2⟩ := hr t List.mem_cons_self
    exact trodAll_cons_mk (WideElems.Trod_stays hl hr1 hr2 h1 (fun p hp => hB.same (hlt p (List.mem_append_left _ hp))) (fun p hp => hs p (List.mem_append_left _ hp)))
      (trodAll_below hl hB (fun t ht => hr t (List.mem_cons_of_mem _ ht)) h2 (fun p hp => hlt p (List.mem_append_right _ hp)) (fun p hp => hs p (List.mem_append_right _ hp)))
end
end Go.Proofs.YtlnaeppbhjmocaaDoor
set_option linter.unusedSimpArgs false
set_option linter.unusedVariables false
namespace Go.Proofs.YtlnaeppbhjmocaaDoor.parcelFewer
open Go.ChangeShapes Go.WideShapes Go.ChangeAt Go.RowKit

theorem laidOf {W : World} (h : laidMetH Tryd.prog Rows.parcelFewerUptoRow.laid W) : laidMet Tryd.prog Rows.parcelFewerUptoRow.laid W := by
  rwa [MakeChecks.laidMetH_plain _ _ _ (by kernel_rfl)] at h
theorem okOf {W : World} (h : laidMetH Tryd.prog Rows.parcelFewerUptoRow.laid W) : Ok W where
  fours := okFours (Lib.laidMet.reads (laidOf h) (List.mem_cons_of_mem _ List.mem_cons_self))

set_option maxRecDepth 100000 in
theorem contract (H : Type) (enc : TypeId × Value → H) (W : World) (base : Nat) (args : Array Value) (ds gs : List (DataW H)) (before : List MemPlace)
    (hval : ∀ (j : Nat) t v, Tryd.f9.params[j]? = some t → args[j]? = some v → Value.okWide Tryd.prog W .any base t v)
    (hW : DataW.Whole enc Tryd.prog Tryd.f9.params.toList Rows.parcelFewerSpec.vars false W args.toList ds gs before) (hS : Rows.uptoSmall H (ds ++ gs) = true) (hL : laidMetH Tryd.prog Rows.parcelFewerUptoRow.laid W) (hSh : W.ShapedOpen Tryd.prog) :
    Calls Tryd.prog 9 args W fun e W' => ∃ v, e = .returned v ∧ Rows.parcelFewerSpec.post enc Tryd.prog Tryd.f9 false true false false W args v W' := by
  have hW' := hW
  obtain ⟨p, q, hA0, hV, rfl, hfz, hnd⟩ := hW
  have hA : DataW.TrodAll enc Tryd.prog W 0 (fun _ => true) true Tryd.f9.params.toList args.toList ds p := hA0
  rw [Tryd.params9] at hA hval
  obtain ⟨v0, vs0, d0, ds0, p0, q0, hargs, rfl, rfl, h0, r0⟩ := trodAll_cons hA
  obtain ⟨v1, vs1, d1, ds1, p1, q1, rfl, rfl, rfl, h1, r1⟩ := trodAll_cons r0
  obtain ⟨rfl, rfl, rfl⟩ := trodAll_nil r1
  obtain rfl : args = #[v0, v1] := by cases args; simp_all
  obtain ⟨rfl, rfl⟩ := trodVars_none hV
  clear hA0
  simp only [List.append_nil] at hW'
  have hsz : Rows.uptoBulk d0 ≤ 1048576 := by
    have : Rows.uptoBulkAll ([d0, d1] ++ []) ≤ 1048576 := by simpa [Rows.uptoSmall] using hS
    simp only [List.append_nil, Rows.uptoBulkAll] at this
    omega
  obtain ⟨A0, n0, c0, rfl⟩ := okWide_slice Tryd.underlying26 (hval 0 26 v0 rfl rfl)
  obtain ⟨x1, rfl⟩ := okWide_int Tryd.underlying3 (hval 1 3 v1 rfl rfl)
  obtain ⟨fuel0, h0⟩ := h0
  obtain ⟨tv0, A', c', e, hT0, _⟩ := open_tree h0 hsz
  simp only [Value.cells] at e
  injection e with e _
  injection e with e1 e2 e3
  subst e1 e2 e3
  have walk : Calls Tryd.prog 9 #[.slice A0 tv0.length c0, .int .i64 x1] W fun e w' => e = .returned (.bool true) ∧ Fr W w' :=
    law_Fewer A0 c0 tv0 x1 W (okOf hL) (sizeOf hSh) hT0
  refine walk.mono fun e W' ⟨he, hg⟩ => ?_
  subst he
  have hlt : ∀ x ∈ p0 ++ (p1 ++ ([] : List MemPlace)), x.block < W.heap.size := fun x hx => by simpa using hW'.lt x (by simpa using hx)
  exact ⟨_, rfl, post_of_below (pa := p0 ++ (p1 ++ [])) (pv := []) hW' (fun _ _ _ => trodAll_cons_mk (shut_bool Tryd.underlying4 _) trodAll_mk0)
    (fun sp hsp => trodAll_below laidOut hg.below (by rw [Tryd.params9]; simp only [List.mem_cons, List.not_mem_nil, or_false, forall_eq_or_imp, forall_eq]; exact ⟨⟨by kernel_rfl, of_decide_eq_true (by kernel_rfl)⟩, ⟨by kernel_rfl, of_decide_eq_true (by kernel_rfl)⟩⟩) (by rw [Tryd.params9]; exact hA) hlt (fun x hx => hsp x (by simpa using hx)))
    (fun _ _ => rfl) (by simp) hg.below (ok_one (by kernel_rfl) rfl (okWide_bool_mk Tryd.underlying4 _))⟩

/-- A WORLD FOR THE WITNESS: the settled one, the listed variables as they are laid. -/
def cells1 : DataW Unit → List Value
  | .lit (.int k z) => [.int k z]
  | .lit (.string s) => [.string ⟨s.toArray⟩]
  | .agg l => l.map fun d => match d with
    | .lit (.int k z) => Value.int k z
    | _ => Value.bool false
  | _ => []
def cellsOfData : DataW Unit → Array Value
  | .agg l => (l.flatMap cells1).toArray
  | _ => #[]
def layCells (cs : Array Value) : Obj → Obj
  | .cells _ t frozen => .cells cs t frozen
  | o => o
def layAt (d : DataW Unit) : Obj → Obj := layCells (cellsOfData d)
noncomputable def laidWorld (os : Os) : World :=
  let w0 := World.holding Tryd.prog os ⟨#[], #[], []⟩
  { w0 with heap := ((w0.heap.modify 3 (layAt Rows.laid_unicode_utf8_acceptRanges)).modify 0 (layAt Rows.laid_shale_words_fours)).modify 2 (layAt Rows.laid_unicode_utf8_first) }
def wArgs : Array Value := #[.slice none 0 0, .int .i64 0]
theorem laid_met (os : Os) : laidMet Tryd.prog Rows.parcelFewerUptoRow.laid ((laidWorld os).forCall (fun _ _ => 0) ⟨#[], wArgs, []⟩).memory :=
  laidMet_of_run' 8 (by kernel_rfl) (by kernel_rfl)
theorem reads (os : Os) {H : Type} (enc : TypeId × Value → H) : ∃ places, DataW.whole enc Tryd.prog ((laidWorld os).forCall (fun _ _ => 0) ⟨#[], wArgs, []⟩).memory Tryd.f9.params.toList Rows.parcelFewerSpec.vars false wArgs.toList 8 = some ([.nil, .lit (.int .i64 0)], [], places) :=
  ⟨[], by kernel_rfl⟩

set_option maxRecDepth 100000 in
theorem lifted (os : Os) (started : os.Started) (H : Type) (enc : TypeId × Value → H) (F : Stop.Interp) :
    ReturnsInHanded {} Tryd.checked os 9 .any ((Rows.OpenSpec.upto Rows.parcelFewerSpec).preRow enc Tryd.prog Tryd.f9 Rows.parcelFewerUptoRow.domain false Rows.parcelFewerUptoRow.laid) (((Rows.OpenSpec.upto Rows.parcelFewerSpec).at F).post enc Tryd.prog Tryd.f9 false true false false) := by
  obtain ⟨places, hx⟩ := reads os enc
  refine returnsInHanded_of_row (C := Tryd.checked) (s := Rows.OpenSpec.upto Rows.parcelFewerSpec) own started (by kernel_rfl) Tryd.func9
    (witness_row_at (enc := enc) (C := Tryd.checked) false (laidWorld os) wArgs rfl (by kernel_rfl) (by kernel_rfl) (by kernel_rfl)
      (OpenSpec.preRow_of_cond 8 hx (by kernel_rfl) (fun k hk => by cases hk; kernel_rfl) (by kernel_rfl) (laid_met os))) ?_
  intro W base args ds gs before hval hW _ hcond _ hL hSh _
  exact contract H enc W base args ds gs before hval hW (hcond _ rfl) hL hSh

theorem said : Rows.ParcelFewerUptoSaid :=
  OpenClaim.holds_of_cond 9 Tryd.f9 rfl rfl rfl rfl rfl rfl rfl ⟨rfl, rfl, rfl, rfl, rfl⟩ rfl rfl rfl rfl rfl (by kernel_rfl) Tryd.func9 (by kernel_rfl)
    (of_decide_eq_true (by kernel_rfl)) (by unfold Func.isWrapper; first | (rw [if_pos (by decide +kernel)]; kernel_rfl) | (rw [if_neg (by decide +kernel)]; exact ⟨rfl, rfl⟩))
    (fun os started H enc _ F => by rw [OpenClaim.pre_eq_preRow]; exact lifted os started H enc F)

theorem plain (f : FuncId) (fn : Func) (hf : Tryd.pinned.checked.prog.funcNamed "shale/shalelaw18.ParcelFewer" = some f) (hfn : Tryd.pinned.checked.prog.funcs[f]? = some fn) :
    true = Tryd.pinned.checked.prog.looks [] ∧ ∀ (j : Nat) t, fn.params[j]? = some t → Tryd.pinned.checked.prog.wantsStandIn t = false := by
  obtain rfl : f = 9 := Option.some.inj ((show Tryd.prog.funcNamed "shale/shalelaw18.ParcelFewer" = some 9 by kernel_rfl).symm.trans hf) |>.symm
  obtain rfl : fn = Tryd.f9 := (Option.some.inj (Tryd.func9.symm.trans hfn)).symm
  refine ⟨by kernel_rfl, fun j t ht => ?_⟩
  rw [Tryd.params9] at ht
  have hm : t = 26 ∨ t = 3 := by simpa using Array.mem_of_getElem? ht
  rcases hm with rfl | rfl
  · exact (show Tryd.prog.wantsStandIn 26 = false by kernel_rfl)
  · exact (show Tryd.prog.wantsStandIn 3 = false by kernel_rfl)

theorem card : Rows.ParcelFewerUptoCardSaid :=
  Claim7.holds_tied_plain_at .later [] _ _ _ _ said (fun _ h => by cases h) (by kernel_rfl) (fun _ h => by cases h) parcelFewerUpto_row_tie rfl ⟨rfl, rfl⟩ (by kernel_rfl) rfl plain (by kernel_rfl)
end Go.Proofs.YtlnaeppbhjmocaaDoor.parcelFewer
