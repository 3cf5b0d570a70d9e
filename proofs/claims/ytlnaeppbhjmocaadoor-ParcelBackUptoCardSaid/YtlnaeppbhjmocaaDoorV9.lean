/- ParcelWhole and ParcelBack: their cards, side by side: for all arguments whose bulk is at most 1048576 the laws return true. -/
import Derived.Test.YtlnaeppbhjmocaaDoorV8
import Derived.Below
import Derived.OpenShut
import Derived.Deep.DeepHandedRow
import Derived.ProofKit
import Derived.Deep.DeepWitnessRowRef
import Derived.MakeChecks
set_option linter.unusedSectionVars false
set_option linter.unnecessarySimpa false
set_option linter.unusedSimpArgs false
set_option linter.unusedVariables false
set_option linter.unusedSimpArgs false
set_option linter.unusedVariables false
namespace Go.Proofs.YtlnaeppbhjmocaaDoor
open Go.RowKit Go.Proofs

theorem restB_all : ∀ (r : List Lf) (ahead : List ByteArray) (dir : Bool), restB ahead dir r = true → ∀ l ∈ r, okL l = true ∧ namesP l.path.data.toList = some (nmL l) ∧ nmL l ≠ [] := by
  intro r
  induction r with
  | nil => intro _ _ _ l hl; cases hl
  | cons x r ih =>
    intro ahead dir h l hl
    rw [restB, Bool.and_eq_true, Bool.and_eq_true, Bool.and_eq_true] at h
    obtain ⟨⟨⟨h1, h2⟩, h3⟩, h4⟩ := h
    rcases List.mem_cons.1 hl with e | e
    · subst e
      refine ⟨h2, ?_, ?_⟩
      · unfold nmL
        cases hq : namesP l.path.data.toList with
        | none => rw [hq] at h1; cases h1
        | some ns => rfl
      · simp only [stepX, Bool.and_eq_true] at h3
        exact behind_ne ltB h3.1.1
    · exact ih _ _ h4 l e
theorem last_63 {l : Lf} {ns : List ByteArray} (h : namesP l.path.data.toList = some ns) (hne : ns ≠ []) : (ns.getLastD ⟨#[]⟩).size ≤ 63 := by
  have hg := (namesP_good h).2.1
  have hl : ns.getLastD ⟨#[]⟩ ∈ ns := by
    rw [List.getLastD_eq_getLast?, List.getLast?_eq_some_getLast hne]
    exact List.getLast_mem hne
  exact (nameB_all (hg _ hl)).2.2.2.1
theorem pieces_ok : ∀ (r : List Lf), (∀ l ∈ r, okL l = true ∧ namesP l.path.data.toList = some (nmL l) ∧ nmL l ≠ []) → (∀ l ∈ r, bytesOk l.data) →
    bytesOk (r.flatMap fun y => pieceB y (nmL y)) ∧ (r.flatMap fun y => pieceB y (nmL y)).length ≤ (r.map fun l => 256 + 6 * l.data.length).sum := by
  intro r
  induction r with
  | nil => intro _ _; exact ⟨fun x hx => (by cases hx), by simp⟩
  | cons l r ih =>
    intro h hd
    obtain ⟨h1, h2, h3⟩ := h l List.mem_cons_self
    have hp := piece_ok h1 (hd l List.mem_cons_self) (namesP_good h2).2.2.1 (last_63 h2 h3)
    obtain ⟨i1, i2⟩ := ih (fun x hx => h x (List.mem_cons_of_mem _ hx)) (fun x hx => hd x (List.mem_cons_of_mem _ hx))
    rw [List.flatMap_cons, List.map_cons, List.sum_cons, List.length_append]
    exact ⟨bytesOk_app hp.1 i1, by have := hp.2; omega⟩
theorem packX_bytes {t : List Lf} {L : List Int} (h : packX t = (L, 0)) (hd : ∀ l ∈ t, bytesOk l.data) : bytesOk L ∧ L.length ≤ 20 + (t.map fun l => 256 + 6 * l.data.length).sum ∧ 20 ≤ L.length := by
  obtain ⟨x, r, rfl, h1, h2, h3, h4, rfl⟩ := packX_ok h
  obtain ⟨p1, p2⟩ := pieces_ok r (restB_all r _ _ h4) (fun l hl => hd l (List.mem_cons_of_mem _ hl))
  have hb : bytesOk (headX x) := by
    unfold headX
    refine bytesOk_app (bytesOk_app (fun z hz => ?_) (le_mem _ _)) (le_mem _ _)
    simp at hz
    omega
  have hl : (headX x).length = 15 := by
    unfold headX
    simp only [List.length_append, le_length, List.length_cons, List.length_nil]
  unfold bodyX
  refine ⟨bytesOk_app (bytesOk_app (bytesOk_app hb p1) (bytesOk_one (by decide))) (le_mem _ _), ?_, ?_⟩
  · simp only [List.length_append, le_length, List.length_cons, List.length_nil, hl, List.map_cons, List.sum_cons]
    omega
  · simp only [List.length_append, le_length, List.length_cons, List.length_nil, hl]
    omega
/-- what is packed, and something behind it, read -/
theorem pack_more {t : List Lf} {L : List Int} (h : packX t = (L, 0)) (hst : ∀ l ∈ t, 0 ≤ l.stamp ∧ l.stamp ≤ 18446744073709551615) (more : List Int) : readX crcI (L ++ more) = if more = [] then (t, 0) else ([], 190) := by
  obtain ⟨x, r, rfl, h1, h2, h3, h4, rfl⟩ := packX_ok h
  exact read_pack crcI x r more h1 h2 h3 h4 hst
theorem pack_cut {t : List Lf} {L : List Int} (h : packX t = (L, 0)) (hst : ∀ l ∈ t, 0 ≤ l.stamp ∧ l.stamp ≤ 18446744073709551615) {k : Nat} (hk : k < L.length) : readX crcI (L.take k) = ([], 190) := by
  have h1 := pack_more h hst []
  rw [List.append_nil, if_pos rfl] at h1
  refine read_pre h1 ?_ hk
  obtain ⟨x, r, rfl, _⟩ := packX_ok h
  simp
/-- a tree argument that is not beyond the bounds -/
structure TIn (w : World) (A : Option Addr) (c : Nat) (tv : List (Lf × Value)) : Prop where
  at_ : LAt w A tv
  cap : tv.length ≤ c
  len : tv.length ≤ 1048576
  path : ∀ p ∈ tv, p.1.path.size ≤ 1048575
  stamp : ∀ p ∈ tv, 0 ≤ p.1.stamp ∧ p.1.stamp ≤ 18446744073709551615
  sum : (tv.map fun p => 256 + 6 * p.1.data.length).sum ≤ 536870912
  bytes : ∀ p ∈ tv, bytesOk p.1.data
theorem TIn.pack {w0 w : World} {A : Option Addr} {c : Nat} {tv : List (Lf × Value)} (h : TIn w0 A c tv) (q : Fr w0 w) (hB0 : 0 < w0.heap.size) :
    Calls Tryd.prog 21 #[.slice A tv.length c] w fun e w' => ∃ v, e = .returned (.tuple #[v, .int .i64 (packX (tv.map Prod.fst)).2]) ∧ OwnB w' w.heap.size v (packX (tv.map Prod.fst)).1 ∧ Fr w w' :=
  pack_any A c tv w q.ok (h.at_.fr q) h.cap (by have := h.len; omega) h.path h.stamp h.sum h.bytes (by have := q.size; omega)
theorem BytesAt.take {w : World} {A : Option Addr} {L : List Int} (h : BytesAt w A L) (k : Nat) : BytesAt w A (L.take k) := by
  rcases h with h | ⟨g, o, hA, hg, h⟩
  · exact .inl (by rw [h]; simp)
  · refine .inr ⟨g, o, hA, hg, fun i x hx => h i x ?_⟩
    rw [List.getElem?_take] at hx
    split at hx
    · exact hx
    · cases hx
theorem own_nz {w : World} {B n c : Nat} {a : Option Addr} {xs : List Int} (h : OwnB w B (.slice a n c) xs) : a = none → c = 0 := fun e => by
  subst e
  rcases h.2 with ⟨hv, _⟩ | ⟨g, cap, cur, hv, _⟩
  · injection hv
  · cases hv
/-- two rows put together behind an empty one -/
theorem join_rows (W : World) (hW : Ok W) (a : Option Addr) (d : Nat) (L : List Int) (am : Option Addr) (dm : Nat) (M : List Int) (hL : BytesAt W a L) (hM : BytesAt W am M) (hn : a = none → d = 0) (hm : am = none → dm = 0) (hl : L.length + M.length ≤ 1073741824) :
    ∃ g1 w1 a2 d2 w2 a3 d3 w3, W.heap.size = g1 ∧ W.alloc (.cells #[] 5) = w1 ∧ (Builtin.append_ #[22, 22] 22 #[.slice (some ⟨g1, 0, none⟩) 0 0, .slice a L.length d]).run Tryd.prog w1 = .ok (.slice a2 L.length d2) w2 ∧
      (Builtin.append_ #[22, 22] 22 #[.slice a2 L.length d2, .slice am M.length dm]).run Tryd.prog w2 = .ok (.slice a3 (L ++ M).length d3) w3 ∧ OwnB w3 W.heap.size (.slice a3 (L ++ M).length d3) (L ++ M) ∧ Fr W w3 := by
  have O1 := OwnB.empty W W.heap.size (Nat.le_refl _)
  obtain ⟨w1, hw1⟩ : ∃ w1, W.alloc (.cells #[] 5) = w1 := ⟨_, rfl⟩
  have q1 : W.grownBy w1 none := by rw [← hw1]; exact World.grownBy_alloc _ _ none
  rw [hw1] at O1
  have f1 := fr_of_grown hW q1
  obtain ⟨v2, w2, hap, O2, q2, i2⟩ := append_row 22 W.heap.size (some ⟨W.heap.size, 0, none⟩) 0 [] L a d w1 O1 (hL.fr f1) hn (by simp; omega) q1.size
  rw [List.nil_append] at O2
  simp only [List.length_nil] at hap
  obtain ⟨a2, d2, rfl⟩ := O2.form
  have f2 : Fr W w2 := Fr.row f1 hW q2 (fun k e => (World.ownsRow.lt O1 k e).1)
  obtain ⟨v3, w3, hap2, O3, q3, i3⟩ := append_row 22 W.heap.size a2 d2 L M am dm w2 O2 (hM.fr f2) hm (by omega) f2.size
  obtain ⟨a3, d3, rfl⟩ := O3.form
  exact ⟨_, w1, a2, d2, w2, a3, d3, w3, rfl, hw1, hap, hap2, O3, Fr.row f2 hW q3 (fun k e => (World.ownsRow.lt O2 k e).1)⟩
theorem tree_nil {w : World} {B : Nat} {v : Value} (h : TreeAt w B v []) : ∃ a c, v = .slice a 0 c := by
  obtain ⟨a, tv, c, rfl, h1, _⟩ := h
  have : tv = [] := by simpa using h1
  subst this
  exact ⟨a, c, rfl⟩

set_option maxRecDepth 100000 in
set_option maxHeartbeats 6400000 in
theorem law_Whole (A : Option Addr) (c : Nat) (tv : List (Lf × Value)) (cut : Int) (Am : Option Addr) (cm : Nat) (M : List Int) (w : World) (hw : Ok w) (hg : 4 ≤ w.heap.size) (hT : TIn w A c tv) (hM : BytesAt w Am M) (hMb : bytesOk M) (hMc : M.length ≤ cm) (hMl : M.length ≤ 1048576) (hMn : Am = none → cm = 0) :
    Calls Tryd.prog 8 #[.slice A tv.length c, .int .i64 cut, .slice Am M.length cm] w fun e w' => e = .returned (.bool true) ∧ Fr w w' := by
  have hB0 : 0 < w.heap.size := by omega
  obtain ⟨⟨L, er⟩, hP⟩ : ∃ P, packX (tv.map Prod.fst) = P := ⟨_, rfl⟩
  have HPk := Lib.hid (fun W (q : Fr w W) => hT.pack q hB0)
  rw [hP] at HPk
  dsimp only at HPk
  have HHe := Lib.hid (heads_any w hw hg)
  have HNo := Lib.hid (fun x W (q : Fr w W) => no_any x W q.ok)
  by_cases he : er = 0
  · subst he
    have hd : ∀ l ∈ tv.map Prod.fst, bytesOk l.data := fun l hl => by obtain ⟨p, hp, rfl⟩ := List.mem_map.1 hl; exact hT.bytes p hp
    have hst : ∀ l ∈ tv.map Prod.fst, 0 ≤ l.stamp ∧ l.stamp ≤ 18446744073709551615 := fun l hl => by obtain ⟨p, hp, rfl⟩ := List.mem_map.1 hl; exact hT.stamp p hp
    obtain ⟨hLb, hLl, _⟩ := packX_bytes hP hd
    have hLl2 : L.length ≤ 536870932 := by
      have h := hT.sum
      rw [List.map_map] at hLl
      have e : ((fun l : Lf => 256 + 6 * l.data.length) ∘ Prod.fst) = fun p : Lf × Value => 256 + 6 * p.1.data.length := rfl
      rw [e] at hLl
      omega
    have hmore := pack_more hP hst M
    have hcut := fun k (hk : k < L.length) => pack_cut hP hst hk
    have HL := Lib.hid (And.intro hLb (And.intro hLl2 (And.intro hmore hcut)))
    have HRe := Lib.hid (fun W (q : Fr w W) A c (X : List Int) (h1 : BytesAt W A X) (h0 : bytesOk X) (h2 : X.length ≤ c) (h3 : X.length ≤ 1073741824) => pread_any A c X W q.ok h1 h0 h2 h3 (by have := q.size; omega))
    have hE0 : ((0 : Int) != 0) = false := rfl
    have hE1 : ((190 : Int) != 190) = false := rfl
    clear hP hd hst hLb hLl hLl2 hmore hcut
    have HM := Lib.hid (And.intro hM (And.intro hMb (And.intro hMc (And.intro hMl hMn))))
    clear hM hMb hMc hMn
    go_enter Tryd.func8, Tryd.ntmps8
    go_upto_region 6 with (first
      | (go_at_call 24; refine HHe.out.mono ?_; rintro e w1 ⟨rfl, q⟩)
      | (go_at_call 21; refine (HPk.out _ q).mono ?_; rintro e w4 ⟨v4, rfl, O4, q4⟩; replace q := q.trans q4; clear q4; go_loud (obtain ⟨a4, d4, rfl⟩ := O4.form))
      | (go_at_call 16; refine (HNo.out 0 _ q).mono ?_; rintro e w5 ⟨rfl, q5⟩; replace O4 := OwnB.fr O4 q5; replace q := q.trans q5; clear q5))
    by_cases hc0 : 0 ≤ cut ∧ cut < (L.length : Int)
    · obtain ⟨k, rfl⟩ : ∃ k : Nat, cut = (k : Int) := ⟨cut.toNat, by omega⟩
      have c1 : (0 : Int) ≤ (k : Int) := by omega
      have c2 : (k : Int) < (L.length : Int) := hc0.2
      have hlk : (L.take k).length = k := by rw [List.length_take]; omega
      have HRk := Lib.hid (fun W (B : Nat) (q : Fr w W) (O : OwnB W B (.slice a4 L.length d4) L) => by
        have h := HRe.out W q a4 d4 (L.take k) (O.at.1.take k) (HL.out.1.take k) (by have := O.at.2.2; omega) (by have := HL.out.2.1; omega)
        rw [HL.out.2.2.2 k (by omega), hlk] at h
        exact h)
      have c3 : (k : Int) ≤ (d4 : Int) := by have := O4.at.2.2; omega
      clear hc0 hlk
      by_cases hM0 : M = []
      · subst hM0
        go_wp2_with (first
          | (go_at_call 15; refine (HRk.out _ _ q O4).mono ?_; rintro e w8 ⟨v8, rfl, q8, T8⟩; replace O4 := OwnB.fr O4 q8; replace q := q.trans q8; clear q8; go_loud (obtain ⟨a8, c8, rfl⟩ := tree_nil T8))
          | (go_at_call 16; refine (HNo.out 190 _ q).mono ?_; rintro e w9 ⟨rfl, q9⟩; replace O4 := OwnB.fr O4 q9; replace q := q.trans q9; clear q9))
        exact ⟨rfl, _, results_tmp rfl _ _ _, rfl, q⟩
      · have m1 : ¬ ((M.length : Int) = 0) := fun e => hM0 (List.eq_nil_of_length_eq_zero (by omega))
        go_upto_region 12 with (first
          | (go_at_call 15; refine (HRk.out _ _ q O4).mono ?_; rintro e w8 ⟨v8, rfl, q8, T8⟩; replace O4 := OwnB.fr O4 q8; replace q := q.trans q8; clear q8; go_loud (obtain ⟨a8, c8, rfl⟩ := tree_nil T8))
          | (go_at_call 16; refine (HNo.out 190 _ q).mono ?_; rintro e w9 ⟨rfl, q9⟩; replace O4 := OwnB.fr O4 q9; replace q := q.trans q9; clear q9))
        obtain ⟨g1, w11, a2, d2, w12, a3, d3, w13, hg1, hw11, hap, hap2, O13, f13⟩ := join_rows _ q.ok a4 d4 L Am cm M O4.at.1 (HM.out.1.fr q) (own_nz O4) HM.out.2.2.2.2 (by have := HL.out.2.1; omega)
        obtain ⟨X, hX⟩ : ∃ X, L ++ M = X := ⟨_, rfl⟩
        have hXb : bytesOk X := by rw [← hX]; exact bytesOk_app HL.out.1 HM.out.2.1
        have hXl : X.length ≤ 1073741824 := by rw [← hX, List.length_append]; have := HL.out.2.1; omega
        have hrd := HL.out.2.2.1
        rw [if_neg hM0] at hrd
        rw [hX] at hap2 O13 hrd
        have hre := HRe.out w13 (q.trans f13) a3 d3 X O13.at.1 hXb O13.at.2.2 hXl
        rw [hrd] at hre
        have HRe2 := Lib.hid hre
        replace q := q.trans f13
        clear hre hrd hXb hXl hX O13 f13 O4
        go_wp2_with (first
          | (at_builtin; refine wpList_append_run rfl _ _ 22 22 rfl (by simp [Act.eval]) (by simp [Act.eval]) hap ?_)
          | (at_builtin; refine wpList_append_run rfl _ _ 22 22 rfl (by simp [Act.eval]) (by simp [Act.eval]) hap2 ?_)
          | (go_at_call 15; refine HRe2.out.mono ?_; rintro e w8 ⟨v8, rfl, q8, T8⟩; replace q := q.trans q8; clear q8; go_loud (obtain ⟨a8, c8, rfl⟩ := tree_nil T8))
          | (go_at_call 16; refine (HNo.out 190 _ q).mono ?_; rintro e w5 ⟨rfl, q5⟩; replace q := q.trans q5; clear q5))
        exact ⟨rfl, _, results_tmp rfl _ _ _, rfl, q⟩
    · have hor : cut < 0 ∨ (L.length : Int) ≤ cut := by omega
      by_cases hM0 : M = []
      · subst hM0
        rcases hor with hor | hor
        · go_wp2_with fail
          exact ⟨rfl, _, results_tmp rfl _ _ _, rfl, q⟩
        · have hor2 : 0 ≤ cut := by omega
          go_wp2_with fail
          exact ⟨rfl, _, results_tmp rfl _ _ _, rfl, q⟩
      · have m1 : ¬ ((M.length : Int) = 0) := fun e => hM0 (List.eq_nil_of_length_eq_zero (by omega))
        rcases hor with hor | hor
        · go_upto_region 12 with fail
          obtain ⟨g1, w11, a2, d2, w12, a3, d3, w13, hg1, hw11, hap, hap2, O13, f13⟩ := join_rows _ q.ok a4 d4 L Am cm M O4.at.1 (HM.out.1.fr q) (own_nz O4) HM.out.2.2.2.2 (by have := HL.out.2.1; omega)
          obtain ⟨X, hX⟩ : ∃ X, L ++ M = X := ⟨_, rfl⟩
          have hXb : bytesOk X := by rw [← hX]; exact bytesOk_app HL.out.1 HM.out.2.1
          have hXl : X.length ≤ 1073741824 := by rw [← hX, List.length_append]; have := HL.out.2.1; omega
          have hrd := HL.out.2.2.1
          rw [if_neg hM0] at hrd
          rw [hX] at hap2 O13 hrd
          have hre := HRe.out w13 (q.trans f13) a3 d3 X O13.at.1 hXb O13.at.2.2 hXl
          rw [hrd] at hre
          have HRe2 := Lib.hid hre
          replace q := q.trans f13
          clear hre hrd hXb hXl hX O13 f13 O4
          go_wp2_with (first
            | (at_builtin; refine wpList_append_run rfl _ _ 22 22 rfl (by simp [Act.eval]) (by simp [Act.eval]) hap ?_)
            | (at_builtin; refine wpList_append_run rfl _ _ 22 22 rfl (by simp [Act.eval]) (by simp [Act.eval]) hap2 ?_)
            | (go_at_call 15; refine HRe2.out.mono ?_; rintro e w8 ⟨v8, rfl, q8, T8⟩; replace q := q.trans q8; clear q8; go_loud (obtain ⟨a8, c8, rfl⟩ := tree_nil T8))
            | (go_at_call 16; refine (HNo.out 190 _ q).mono ?_; rintro e w5 ⟨rfl, q5⟩; replace q := q.trans q5; clear q5))
          exact ⟨rfl, _, results_tmp rfl _ _ _, rfl, q⟩
        · have hor2 : 0 ≤ cut := by omega
          go_upto_region 12 with fail
          obtain ⟨g1, w11, a2, d2, w12, a3, d3, w13, hg1, hw11, hap, hap2, O13, f13⟩ := join_rows _ q.ok a4 d4 L Am cm M O4.at.1 (HM.out.1.fr q) (own_nz O4) HM.out.2.2.2.2 (by have := HL.out.2.1; omega)
          obtain ⟨X, hX⟩ : ∃ X, L ++ M = X := ⟨_, rfl⟩
          have hXb : bytesOk X := by rw [← hX]; exact bytesOk_app HL.out.1 HM.out.2.1
          have hXl : X.length ≤ 1073741824 := by rw [← hX, List.length_append]; have := HL.out.2.1; omega
          have hrd := HL.out.2.2.1
          rw [if_neg hM0] at hrd
          rw [hX] at hap2 O13 hrd
          have hre := HRe.out w13 (q.trans f13) a3 d3 X O13.at.1 hXb O13.at.2.2 hXl
          rw [hrd] at hre
          have HRe2 := Lib.hid hre
          replace q := q.trans f13
          clear hre hrd hXb hXl hX O13 f13 O4
          go_wp2_with (first
            | (at_builtin; refine wpList_append_run rfl _ _ 22 22 rfl (by simp [Act.eval]) (by simp [Act.eval]) hap ?_)
            | (at_builtin; refine wpList_append_run rfl _ _ 22 22 rfl (by simp [Act.eval]) (by simp [Act.eval]) hap2 ?_)
            | (go_at_call 15; refine HRe2.out.mono ?_; rintro e w8 ⟨v8, rfl, q8, T8⟩; replace q := q.trans q8; clear q8; go_loud (obtain ⟨a8, c8, rfl⟩ := tree_nil T8))
            | (go_at_call 16; refine (HNo.out 190 _ q).mono ?_; rintro e w5 ⟨rfl, q5⟩; replace q := q.trans q5; clear q5))
          exact ⟨rfl, _, results_tmp rfl _ _ _, rfl, q⟩
  · have hE0 : (er != 0) = true := by simp [he]
    clear hP
    go_enter Tryd.func8, Tryd.ntmps8
    go_wp2_with (first
      | (go_at_call 24; refine HHe.out.mono ?_; rintro e w1 ⟨rfl, q⟩)
      | (go_at_call 21; refine (HPk.out _ q).mono ?_; rintro e w4 ⟨v4, rfl, O4, q4⟩; replace q := q.trans q4; clear q4; go_loud (obtain ⟨a4, d4, rfl⟩ := O4.form))
      | (go_at_call 16; refine (HNo.out er _ q).mono ?_; rintro e w5 ⟨rfl, q5⟩; replace q := q.trans q5; clear q5))
    exact ⟨rfl, _, results_tmp rfl _ _ _, rfl, q⟩
end Go.Proofs.YtlnaeppbhjmocaaDoor
set_option linter.unusedSimpArgs false
set_option linter.unusedVariables false
namespace Go.Proofs.YtlnaeppbhjmocaaDoor
open Go.ChangeShapes Go.WideShapes Go.ChangeAt Go.RowKit

instance : Inhabited (Lf × Value) := ⟨(default, .bool false)⟩
section
variable {H : Type} {enc : TypeId × Value → H} {w : World} {base : Nat} {sp : Nat → Bool} {held : Bool}

theorem bulk_sum {α : Type} (F : Nat → α) (g : α → Nat) (D : Nat → DataW H) : ∀ n, (∀ i, i < n → g (F i) ≤ Rows.uptoBulk (D i)) → (((List.range n).map F).map g).sum ≤ Rows.uptoBulkAll ((List.range n).map D) := by
  have happ : ∀ a b : List (DataW H), Rows.uptoBulkAll (a ++ b) = Rows.uptoBulkAll a + Rows.uptoBulkAll b := by
    intro a b
    induction a with
    | nil => simp [Rows.uptoBulkAll]
    | cons x r ih => simp only [List.cons_append, Rows.uptoBulkAll, ih]; omega
  intro n
  induction n with
  | zero => intro _; simp
  | succ n ih =>
    intro h
    have h1 := ih (fun i hi => h i (by omega))
    have h2 := h n (by omega)
    rw [List.range_succ, List.map_append, List.map_append, List.map_append, List.sum_append, happ]
    simp only [List.map_cons, List.map_nil, List.sum_cons, List.sum_nil, Rows.uptoBulkAll]
    omega
/-- a slice of structs of k cells, with the sum of a measure -/
theorem open_rows2 {α : Type} [Inhabited α] {Ts e : TypeId} {k : Nat} (f : α → List Value) (hf : ∀ a, (f a).length = k) (hk : 0 < k) (ht : Tryd.prog.underlying Ts = some (.slice e)) (hc : Tryd.prog.cellsOf e = k) (Q : α → DataW H → Prop) (g : α → Nat) (hg : ∀ a d, Q a d → g a ≤ Rows.uptoBulk d)
    (hopen : ∀ {fuel : Nat} {cs : List Value} {x : DataW H × List MemPlace}, DataW.trod enc Tryd.prog w base sp held fuel e cs = some x → ∃ a, Q a x.1 ∧ cs = f a)
    {fuel : Nat} {cs : List Value} {x : DataW H × List MemPlace} (h : DataW.trod enc Tryd.prog w base sp held fuel Ts cs = some x) :
    ∃ (l : List α) (A : Option Addr) (c : Nat), cs = [.slice A l.length c] ∧ Row w A k (l.map f) ∧ l.length ≤ c ∧ (A = none → c = 0) ∧ l.length ≤ Rows.uptoBulk x.1 ∧ (l.map g).sum ≤ Rows.uptoBulk x.1 ∧ ∀ a ∈ l, ∃ d, Q a d ∧ Rows.uptoBulk d ≤ Rows.uptoBulk x.1 := by
  rcases Deep.open_slice ht h with ⟨rfl, rfl⟩ | ⟨ad, len, cap, m, n, D, Pl, rfl, hb, hl, hm, hmm, rfl, hx⟩
  · exact ⟨[], none, 0, rfl, .inl rfl, Nat.le_refl _, fun _ => rfl, by simp, by simp, fun a ha => by cases ha⟩
  rw [hc] at hx
  have hle : len ≤ m := by rw [hmm]; split <;> omega
  have key : ∀ i, i < len → ∃ a : α, Q a (D i) ∧ w.cells? base (ad.add (i * k)) k = some (f a) := fun i hi => by
    obtain ⟨cs', h1, h2⟩ := hx i (by omega)
    obtain ⟨a, ha, rfl⟩ := hopen h2
    exact ⟨a, ha, h1⟩
  clear hx
  obtain ⟨F, hF⟩ := Deep.choose_lt (α := α) (p := fun i a => Q a (D i) ∧ w.cells? base (ad.add (i * k)) k = some (f a)) key
  have hbulk : Rows.uptoBulkAll ((List.range len).map D) ≤ Rows.uptoBulk (DataW.slice ((List.range len).map D) ((List.range (m - len)).map fun j => D (len + j))) := by
    simp only [Rows.uptoBulk]; omega
  refine ⟨(List.range len).map F, some ad, cap, by simp, ?_, by simpa using hl, (fun e => by cases e), ?_, Nat.le_trans (bulk_sum F g D len (fun i hi => hg _ _ (hF i hi).1)) hbulk, ?_⟩
  · cases len with
    | zero => exact .inl rfl
    | succ len =>
      right
      have cellsF : ∀ i, i < len + 1 → ∀ j, j < k → w.cell? (ad.add (i * k + j)) = (f (F i))[j]? := fun i hi j hj => by
        have := (World.cells?_some (hF i hi).2).2.2 j hj
        rwa [Deep.add_add] at this
      obtain ⟨b, o, spot⟩ := ad
      have h0 := cellsF 0 (by omega) 0 hk
      obtain ⟨v0, hv0⟩ : ∃ v, (f (F 0))[0]? = some v := ⟨_, List.getElem?_eq_getElem (by rw [hf]; exact hk)⟩
      rw [hv0] at h0
      have hspot : spot = none := by simpa [Addr.add] using World.cell?_spot h0
      subst hspot
      refine ⟨b, o, rfl, by simpa [Addr.add] using World.block_lt_of_cell? w _ h0, fun i c hi j v hj hv => ?_⟩
      have hi' : i < len + 1 := by have := (List.getElem?_eq_some_iff.1 hi).1; simpa using this
      have hce : c = f (F i) := by
        simp only [List.getElem?_map, List.getElem?_range hi', Option.map_some, Option.some.injEq] at hi
        exact hi.symm
      subst hce
      have := cellsF i hi' j hj
      rw [Lib.add_plain, hv] at this
      rw [Nat.add_assoc]; exact this
  · have := bulk_len ((List.range len).map D)
    simp only [List.length_map, List.length_range] at this ⊢
    omega
  · intro a ha
    obtain ⟨i, hi, rfl⟩ := List.mem_map.1 ha
    have hi' : i < len := by simpa using hi
    refine ⟨D i, (hF i hi').1, ?_⟩
    exact Nat.le_trans (bulk_get (es := (List.range len).map D) (i := i) (e := D i) (by simp [hi'])) hbulk
def LfOk (w : World) (p : Lf × Value) (d : DataW H) : Prop :=
  p.1.path.size + 1 ≤ Rows.uptoBulk d ∧ (0 ≤ p.1.stamp ∧ p.1.stamp ≤ 18446744073709551615) ∧ (∃ a c, p.2 = .slice a p.1.data.length c ∧ BytesAt w a p.1.data ∧ p.1.data.length ≤ c ∧ (a = none → c = 0)) ∧ bytesOk p.1.data ∧ p.1.data.length ≤ Rows.uptoBulk d
set_option maxRecDepth 100000 in
theorem open_leaf {fuel : Nat} {cs : List Value} {x : DataW H × List MemPlace} (h : DataW.trod enc Tryd.prog w base sp held fuel 45 cs = some x) : ∃ p : Lf × Value, LfOk w p x.1 ∧ cs = lcell p := by
  have hc1 : Tryd.prog.cellsOf 3 = 1 := by kernel_rfl
  have hcu : Tryd.prog.cellsOf 43 = 1 := by kernel_rfl
  have hcs : Tryd.prog.cellsOf 9 = 1 := by kernel_rfl
  have hcB : Tryd.prog.cellsOf 22 = 1 := by kernel_rfl
  have hc6 : Tryd.prog.cellsOf 45 = 6 := by kernel_rfl
  obtain ⟨xs, n, rfl, rfl, hl, hx, hf⟩ := DataW.trod_struct Tryd.underlying45 h
  rw [hc6] at hl
  match xs, hx, cs, hl with
  | [x0, x1, x2, x3, x4, x5], _, [c0, c1, c2, c3, c4, c5], _ =>
    have h0 := hf 0 _ rfl
    have h1 := hf 1 _ rfl
    have h2 := hf 2 _ rfl
    have h3 := hf 3 _ rfl
    have h4 := hf 4 _ rfl
    have h5 := hf 5 _ rfl
    simp [hc1, hcu, hcs, hcB] at h0 h1 h2 h3 h4 h5
    obtain ⟨pa, e0, rfl, _⟩ := DataW.trod_string Tryd.underlying9 h0
    obtain ⟨ty, e1, rfl, w1⟩ := DataW.trod_int Tryd.underlying3 h1
    obtain ⟨mo, e2, rfl, w2⟩ := DataW.trod_int Tryd.underlying3 h2
    obtain ⟨st, e3, rfl, w3⟩ := DataW.trod_int Tryd.underlying43 h3
    obtain ⟨L, A, c, e4, hB, hb, hlc, hA, hlen⟩ := open_u8s h4
    obtain ⟨tg, e5, rfl, _⟩ := DataW.trod_string Tryd.underlying9 h5
    simp at e0 e1 e2 e3 e4 e5
    subst e0 e1 e2 e3 e4 e5
    have hst : 0 ≤ st ∧ st ≤ 18446744073709551615 := by
      have := w3
      simp [Lit.wf, IntKind.min, IntKind.max, IntKind.signed, IntKind.bits] at this
      omega
    refine ⟨(⟨pa, ty, mo, st, L, tg⟩, .slice A L.length c), ⟨?_, hst, ⟨A, c, rfl, hB, hlc, hA⟩, hb, ?_⟩, rfl⟩
    · have := bulk_pos x4.1
      simp only [List.map_cons, Rows.uptoBulk, Rows.uptoBulkAll, Array.length_toList, ByteArray.size]; omega
    · simp only [List.map_cons, Rows.uptoBulk, Rows.uptoBulkAll]; omega
/-- a tree as an argument -/
theorem open_tree {fuel : Nat} {cs : List Value} {x : DataW H × List MemPlace} (h : DataW.trod enc Tryd.prog w base sp held fuel 26 cs = some x) (hb : Rows.uptoBulk x.1 ≤ 1048576) :
    ∃ (tv : List (Lf × Value)) (A : Option Addr) (c : Nat), cs = [.slice A tv.length c] ∧ TIn w A c tv ∧ (A = none → c = 0) := by
  have hc6 : Tryd.prog.cellsOf 45 = 6 := by kernel_rfl
  obtain ⟨tv, A, c, h1, hR, hlc, hA, hlen, hsum, hall⟩ := open_rows2 lcell (fun _ => rfl) (by decide) Tryd.underlying26 hc6 (fun p d => LfOk w p d) (fun p => p.1.data.length) (fun p d q => q.2.2.2.2) (fun h => open_leaf h) h
  refine ⟨tv, A, c, h1, ⟨⟨hR, fun p hp => ?_⟩, hlc, by omega, fun p hp => ?_, fun p hp => ?_, ?_, fun p hp => ?_⟩, hA⟩
  · obtain ⟨d, q, _⟩ := hall p hp
    exact q.2.2.1
  · obtain ⟨d, q, hd⟩ := hall p hp
    have := q.1
    omega
  · obtain ⟨d, q, hd⟩ := hall p hp
    exact q.2.1
  · have hs : ∀ l : List (Lf × Value), (l.map fun p => 256 + 6 * p.1.data.length).sum = 256 * l.length + 6 * (l.map fun p => p.1.data.length).sum := by
      intro l
      induction l with
      | nil => rfl
      | cons y r ih => simp only [List.map_cons, List.sum_cons, List.length_cons, ih]; omega
    rw [hs]
    omega
  · obtain ⟨d, q, hd⟩ := hall p hp
    exact q.2.2.2.1
end
end Go.Proofs.YtlnaeppbhjmocaaDoor
namespace Go.Proofs.YtlnaeppbhjmocaaDoor
open Go.ChangeShapes Go.WideShapes Go.RowKit

section
variable {H : Type} {enc : TypeId × Value → H} {P : Program}

theorem post_of_below {f : Func} {s : ChangeSpec} {apart fresh handsOn again : Bool} {W W' : World} {args : Array Value} {v : Value} {ds gs : List (DataW H)} {before pa pv : List MemPlace}
    (hW : DataW.Whole enc P f.params.toList s.vars apart W args.toList ds gs before)
    (hres : ∀ (b : Nat) (sp : Nat → Bool) (hd : Bool), DataW.TrodAll enc P W' b sp hd f.resultTypes.toList (v.resultList f.resultTypes.size) (s.fn H (ds ++ gs)).results [])
    (hargs : ∀ sp : Nat → Bool, (∀ p ∈ before, sp p.block = true) → DataW.TrodAll enc P W' 0 sp true f.params.toList args.toList (s.fn H (ds ++ gs)).args pa)
    (hvars : ∀ sp : Nat → Bool, (∀ p ∈ before, sp p.block = true) → DataW.TrodVars enc P W' sp s.vars (s.fn H (ds ++ gs)).vars pv)
    (hps : before = pa ++ pv) (hB : Below W.heap.size W W')
    (hok : ∀ (j : Nat) (t : TypeId) (r : Value), f.resultTypes[j]? = some t → (v.resultList f.resultTypes.size)[j]? = some r → Value.okWide P W' .any 0 t r) :
    s.post enc P f apart fresh handsOn again W args v W' := by
  have hold : ∀ p ∈ before, (fun b => decide (b < W.heap.size)) p.block = true := fun p hp => by simpa using hW.lt p hp
  have hlt : ∀ p ∈ before, p.block < W.heap.size := fun p hp => by simpa using hW.lt p hp
  refine ⟨ds, gs, before, [], pa, pv, hW, hres _ _ _, hargs _ hold, hvars _ hold, hB.frame _, fun _ => ?_⟩
  obtain ⟨_, _, _, _, _, hz, hn⟩ := hW
  refine ⟨hok, _, _, ([] ++ pa) ++ pv, ⟨[] ++ pa, pv, trodAll_append (hargs _ (fun _ _ => rfl)) (hres _ _ _), hvars _ (fun _ _ => rfl), rfl, ?_, ?_⟩, ?_⟩
  · intro b off hp
    have hm : MemPlace.cell b off ∈ before := by rw [hps]; simpa using hp
    rw [hB.frozen (p := ⟨b, off, none⟩) (hlt _ hm)]
    exact hz b off hm
  · intro ha
    have := hn ha
    rw [hps] at this
    simpa using this
  · intro p hp _
    rw [hps]
    simpa using hp

/-- the arguments read as they did -/
theorem trodAll_below (hl : laidOutB P = true) {W W' : World} (hB : Below W.heap.size W W') {sp : Nat → Bool} : ∀ {ts : List TypeId} {vs : List Value} {ds : List (DataW H)} {ps : List MemPlace},
    (∀ t ∈ ts, P.readableRec t = true ∧ t < P.types.size) → DataW.TrodAll enc P W 0 (fun _ => true) true ts vs ds ps → (∀ p ∈ ps, p.block < W.heap.size) → (∀ p ∈ ps, sp p.block = true) →
    DataW.TrodAll enc P W' 0 sp true ts vs ds ps
  | [], _, _, _, _, h, _, _ => by
    obtain ⟨rfl, rfl, rfl⟩ := trodAll_nil h
    exact trodAll_mk0
  | t :: ts, _, _, _, hr, h, hlt, hs => by
    obtain ⟨v, vs1, d, ds1, a, b, rfl, rfl, rfl, h1, h2⟩ := trodAll_cons h
    obtain ⟨hr1, hr2⟩ := hr t List.mem_cons_self
    exact trodAll_cons_mk (WideElems.Trod_stays hl hr1 hr2 h1 (fun p hp => hB.same (hlt p (List.mem_append_left _ hp))) (fun p hp => hs p (List.mem_append_left _ hp)))
      (trodAll_below hl hB (fun t ht => hr t (List.mem_cons_of_mem _ ht)) h2 (fun p hp => hlt p (List.mem_append_right _ hp)) (fun p hp => hs p (List.mem_append_right _ hp)))
end
end Go.Proofs.YtlnaeppbhjmocaaDoor
set_option linter.unusedSimpArgs false
set_option linter.unusedVariables false
namespace Go.Proofs.YtlnaeppbhjmocaaDoor.parcelWhole
open Go.ChangeShapes Go.WideShapes Go.ChangeAt Go.RowKit

theorem laidOf {W : World} (h : laidMetH Tryd.prog Rows.parcelWholeUptoRow.laid W) : laidMet Tryd.prog Rows.parcelWholeUptoRow.laid W := by
  rwa [MakeChecks.laidMetH_plain _ _ _ (by kernel_rfl)] at h
theorem okOf {W : World} (h : laidMetH Tryd.prog Rows.parcelWholeUptoRow.laid W) : Ok W where
  fours := okFours (Lib.laidMet.reads (laidOf h) (List.mem_cons_of_mem _ List.mem_cons_self))

set_option maxRecDepth 100000 in
theorem contract (H : Type) (enc : TypeId × Value → H) (W : World) (base : Nat) (args : Array Value) (ds gs : List (DataW H)) (before : List MemPlace)
    (hval : ∀ (j : Nat) t v, Tryd.f8.params[j]? = some t → args[j]? = some v → Value.okWide Tryd.prog W .any base t v)
    (hW : DataW.Whole enc Tryd.prog Tryd.f8.params.toList Rows.parcelWholeSpec.vars false W args.toList ds gs before) (hS : Rows.uptoSmall H (ds ++ gs) = true) (hL : laidMetH Tryd.prog Rows.parcelWholeUptoRow.laid W) (hSh : W.ShapedOpen Tryd.prog) :
    Calls Tryd.prog 8 args W fun e W' => ∃ v, e = .returned v ∧ Rows.parcelWholeSpec.post enc Tryd.prog Tryd.f8 false true false false W args v W' := by
  have hW' := hW
  obtain ⟨p, q, hA0, hV, rfl, hfz, hnd⟩ := hW
  have hA : DataW.TrodAll enc Tryd.prog W 0 (fun _ => true) true Tryd.f8.params.toList args.toList ds p := hA0
  rw [Tryd.params8] at hA hval
  obtain ⟨v0, vs0, d0, ds0, p0, q0, hargs, rfl, rfl, h0, r0⟩ := trodAll_cons hA
  obtain ⟨v1, vs1, d1, ds1, p1, q1, rfl, rfl, rfl, h1, r1⟩ := trodAll_cons r0
  obtain ⟨v2, vs2, d2, ds2, p2, q2, rfl, rfl, rfl, h2, r2⟩ := trodAll_cons r1
  obtain ⟨rfl, rfl, rfl⟩ := trodAll_nil r2
  obtain rfl : args = #[v0, v1, v2] := by cases args; simp_all
  obtain ⟨rfl, rfl⟩ := trodVars_none hV
  clear hA0
  simp only [List.append_nil] at hW'
  have hsz : Rows.uptoBulk d0 ≤ 1048576 ∧ Rows.uptoBulk d2 ≤ 1048576 := by
    have : Rows.uptoBulkAll ([d0, d1, d2] ++ []) ≤ 1048576 := by simpa [Rows.uptoSmall] using hS
    simp only [List.append_nil, Rows.uptoBulkAll] at this
    omega
  obtain ⟨A, n, c, rfl⟩ := okWide_slice Tryd.underlying26 (hval 0 26 v0 rfl rfl)
  obtain ⟨cut, rfl⟩ := okWide_int Tryd.underlying3 (hval 1 3 v1 rfl rfl)
  obtain ⟨Am, nm, cm, rfl⟩ := okWide_slice Tryd.underlying22 (hval 2 22 v2 rfl rfl)
  obtain ⟨fuel, h0⟩ := h0
  obtain ⟨fuel2, h2⟩ := h2
  obtain ⟨tv, A', c', e, hT, _⟩ := open_tree h0 hsz.1
  simp only [Value.cells] at e
  injection e with e _
  injection e with e1 e2 e3
  subst e1 e2 e3
  obtain ⟨M, Am', cm', e, hM, hMb, hMc, hMn, hMl⟩ := open_u8s h2
  simp only [Value.cells] at e
  injection e with e _
  injection e with e1 e2 e3
  subst e1 e2 e3
  dsimp only at hMl
  have walk : Calls Tryd.prog 8 #[.slice A tv.length c, .int .i64 cut, .slice Am M.length cm] W fun e w' => e = .returned (.bool true) ∧ Fr W w' :=
    law_Whole A c tv cut Am cm M W (okOf hL) (sizeOf hSh) hT hM hMb hMc (by omega) hMn
  refine walk.mono fun e W' ⟨he, hg⟩ => ?_
  subst he
  have hlt : ∀ x ∈ p0 ++ (p1 ++ (p2 ++ ([] : List MemPlace))), x.block < W.heap.size := fun x hx => by simpa using hW'.lt x (by simpa using hx)
  exact ⟨_, rfl, post_of_below (pa := p0 ++ (p1 ++ (p2 ++ []))) (pv := []) hW' (fun _ _ _ => trodAll_cons_mk (shut_bool Tryd.underlying4 _) trodAll_mk0)
    (fun sp hsp => trodAll_below laidOut hg.below (by rw [Tryd.params8]; simp only [List.mem_cons, List.not_mem_nil, or_false, forall_eq_or_imp, forall_eq]; exact ⟨⟨by kernel_rfl, of_decide_eq_true (by kernel_rfl)⟩, ⟨by kernel_rfl, of_decide_eq_true (by kernel_rfl)⟩, ⟨by kernel_rfl, of_decide_eq_true (by kernel_rfl)⟩⟩) (by rw [Tryd.params8]; exact hA) hlt (fun x hx => hsp x (by simpa using hx)))
    (fun _ _ => rfl) (by simp) hg.below (ok_one (by kernel_rfl) rfl (okWide_bool_mk Tryd.underlying4 _))⟩

/-- A WORLD FOR THE WITNESS: the settled one, the listed variables as they are laid. -/
def cells1 : DataW Unit → List Value
  | .lit (.int k z) => [.int k z]
  | .lit (.string s) => [.string ⟨s.toArray⟩]
  | .agg l => l.map fun d => match d with
    | .lit (.int k z) => Value.int k z
    | _ => Value.bool false
  | _ => []
def cellsOfData : DataW Unit → Array Value
  | .agg l => (l.flatMap cells1).toArray
  | _ => #[]
def layCells (cs : Array Value) : Obj → Obj
  | .cells _ t frozen => .cells cs t frozen
  | o => o
def layAt (d : DataW Unit) : Obj → Obj := layCells (cellsOfData d)
noncomputable def laidWorld (os : Os) : World :=
  let w0 := World.holding Tryd.prog os ⟨#[], #[], []⟩
  { w0 with heap := ((w0.heap.modify 3 (layAt Rows.laid_unicode_utf8_acceptRanges)).modify 0 (layAt Rows.laid_shale_words_fours)).modify 2 (layAt Rows.laid_unicode_utf8_first) }
def wArgs : Array Value := #[.slice none 0 0, .int .i64 0, .slice none 0 0]
theorem laid_met (os : Os) : laidMet Tryd.prog Rows.parcelWholeUptoRow.laid ((laidWorld os).forCall (fun _ _ => 0) ⟨#[], wArgs, []⟩).memory :=
  laidMet_of_run' 8 (by kernel_rfl) (by kernel_rfl)
theorem reads (os : Os) {H : Type} (enc : TypeId × Value → H) : ∃ places, DataW.whole enc Tryd.prog ((laidWorld os).forCall (fun _ _ => 0) ⟨#[], wArgs, []⟩).memory Tryd.f8.params.toList Rows.parcelWholeSpec.vars false wArgs.toList 8 = some ([.nil, .lit (.int .i64 0), .nil], [], places) :=
  ⟨[], by kernel_rfl⟩

set_option maxRecDepth 100000 in
theorem lifted (os : Os) (started : os.Started) (H : Type) (enc : TypeId × Value → H) (F : Stop.Interp) :
    ReturnsInHanded {} Tryd.checked os 8 .any ((Rows.OpenSpec.upto Rows.parcelWholeSpec).preRow enc Tryd.prog Tryd.f8 Rows.parcelWholeUptoRow.domain false Rows.parcelWholeUptoRow.laid) (((Rows.OpenSpec.upto Rows.parcelWholeSpec).at F).post enc Tryd.prog Tryd.f8 false true false false) := by
  obtain ⟨places, hx⟩ := reads os enc
  refine returnsInHanded_of_row (C := Tryd.checked) (s := Rows.OpenSpec.upto Rows.parcelWholeSpec) own started (by kernel_rfl) Tryd.func8
    (witness_row_at (enc := enc) (C := Tryd.checked) false (laidWorld os) wArgs rfl (by kernel_rfl) (by kernel_rfl) (by kernel_rfl)
      (OpenSpec.preRow_of_cond 8 hx (by kernel_rfl) (fun k hk => by cases hk; kernel_rfl) (by kernel_rfl) (laid_met os))) ?_
  intro W base args ds gs before hval hW _ hcond _ hL hSh _
  exact contract H enc W base args ds gs before hval hW (hcond _ rfl) hL hSh

theorem said : Rows.ParcelWholeUptoSaid :=
  OpenClaim.holds_of_cond 8 Tryd.f8 rfl rfl rfl rfl rfl rfl rfl ⟨rfl, rfl, rfl, rfl, rfl⟩ rfl rfl rfl rfl rfl (by kernel_rfl) Tryd.func8 (by kernel_rfl)
    (of_decide_eq_true (by kernel_rfl)) (by unfold Func.isWrapper; first | (rw [if_pos (by decide +kernel)]; kernel_rfl) | (rw [if_neg (by decide +kernel)]; exact ⟨rfl, rfl⟩))
    (fun os started H enc _ F => by rw [OpenClaim.pre_eq_preRow]; exact lifted os started H enc F)

theorem plain (f : FuncId) (fn : Func) (hf : Tryd.pinned.checked.prog.funcNamed "shale/shalelaw18.ParcelWhole" = some f) (hfn : Tryd.pinned.checked.prog.funcs[f]? = some fn) :
    true = Tryd.pinned.checked.prog.looks [] ∧ ∀ (j : Nat) t, fn.params[j]? = some t → Tryd.pinned.checked.prog.wantsStandIn t = false := by
  obtain rfl : f = 8 := Option.some.inj ((show Tryd.prog.funcNamed "shale/shalelaw18.ParcelWhole" = some 8 by kernel_rfl).symm.trans hf) |>.symm
  obtain rfl : fn = Tryd.f8 := (Option.some.inj (Tryd.func8.symm.trans hfn)).symm
  refine ⟨by kernel_rfl, fun j t ht => ?_⟩
  rw [Tryd.params8] at ht
  have hm : t = 26 ∨ t = 3 ∨ t = 22 := by simpa using Array.mem_of_getElem? ht
  rcases hm with rfl | rfl | rfl
  · exact (show Tryd.prog.wantsStandIn 26 = false by kernel_rfl)
  · exact (show Tryd.prog.wantsStandIn 3 = false by kernel_rfl)
  · exact (show Tryd.prog.wantsStandIn 22 = false by kernel_rfl)

theorem card : Rows.ParcelWholeUptoCardSaid :=
  Claim7.holds_tied_plain_at .later [] _ _ _ _ said (fun _ h => by cases h) (by kernel_rfl) (fun _ h => by cases h) parcelWholeUpto_row_tie rfl ⟨rfl, rfl⟩ (by kernel_rfl) rfl plain (by kernel_rfl)
end Go.Proofs.YtlnaeppbhjmocaaDoor.parcelWhole
set_option linter.unusedSimpArgs false
set_option linter.unusedVariables false
namespace Go.Proofs.YtlnaeppbhjmocaaDoor
open Go.RowKit Go.Proofs

/-! ### How long a piece is -/
theorem cutS_len2 (L : List Int) : ∀ (d f i : Nat), i + d = L.length → d ≤ f → (cutS L f i).length ≤ (if d = 0 then 0 else 5 + d) := by
  intro d
  induction d using Nat.strongRecOn with
  | _ d ih =>
  intro f i hd hf
  by_cases hi : i < L.length
  · obtain ⟨f, rfl⟩ : ∃ m, f = m + 1 := ⟨f - 1, by omega⟩
    have hl := lead0_le (L.drop i)
    rw [List.length_drop] at hl
    rw [if_neg (by omega)]
    by_cases h16 : 16 ≤ lead0 (L.drop i)
    · have := ih (d - lead0 (L.drop i)) (by omega) f (i + lead0 (L.drop i)) (by omega) (by omega)
      rw [cutS_hole L f i hi h16]
      simp only [List.length_cons, List.length_append, le_length]
      split at this <;> omega
    · have hgt := nhL_gt L i hi (by omega)
      have hb := nhL_bounds (L.drop i) 0 i (by omega)
      rw [List.length_drop] at hb
      have hat := nhL_at L d i hd
      rw [cutS_full L f i hi (by omega)]
      obtain ⟨p, hp⟩ : ∃ p, (nhL (L.drop i) 0 i).1 = p := ⟨_, rfl⟩
      rw [hp] at hat hgt hb ⊢
      simp only [List.length_cons, List.length_append, le_length, List.length_take, List.length_drop]
      rcases hat with ⟨h1, _⟩ | ⟨h1, h2⟩
      · rw [cutS_end L f p (by omega)]
        simp only [List.length_nil]
        omega
      · have hl2 := lead0_le (L.drop p)
        rw [List.length_drop] at hl2
        obtain ⟨f, rfl⟩ : ∃ m, f = m + 1 := ⟨f - 1, by omega⟩
        have := ih (L.length - p - lead0 (L.drop p)) (by omega) f (p + lead0 (L.drop p)) (by omega) (by omega)
        rw [cutS_hole L f p (by omega) h1]
        simp only [List.length_cons, List.length_append, le_length]
        split at this <;> omega
  · rw [cutS_end L f i (by omega)]; simp
theorem stretX_len2 (L : List Int) : ((stretX L).flatMap (stretB L)).length ≤ 5 + L.length := by
  unfold stretX
  rw [← cutS_eq L L.length L.length L.length 0 (by omega) (Nat.le_refl _) (Nat.le_refl _)]
  have := cutS_len2 L L.length L.length 0 (by omega) (Nat.le_refl _)
  split at this <;> omega
/-- how many bytes stand behind the last slash, n so far -/
def tailN : Nat → List UInt8 → Nat
  | n, [] => n
  | n, c :: r => tailN (if c = 47 then 0 else n + 1) r
theorem tailN_name (w : List UInt8) (h : (47 : UInt8) ∉ w) : ∀ n rest, tailN n (w ++ rest) = tailN (n + w.length) rest := by
  induction w with
  | nil => intro n rest; simp
  | cons c r ih =>
    intro n rest
    have hc : c ≠ 47 := fun e => h (by simp [e])
    rw [List.cons_append, tailN, if_neg hc, ih (fun e => h (by simp [e])), List.length_cons]
    congr 1; omega
theorem tailN_path (ns : List (List UInt8)) (h : ∀ n ∈ ns, (47 : UInt8) ∉ n) : ∀ m, tailN m (ns.flatMap fun n => 47 :: n) = (if ns = [] then m else (ns.getLastD []).length) := by
  induction ns with
  | nil => intro m; simp [tailN]
  | cons n r ih =>
    intro m
    rw [List.flatMap_cons, List.cons_append, tailN, if_pos rfl, tailN_name n (h n (by simp)), ih (fun x hx => h x (by simp [hx]))]
    cases r with
    | nil => simp
    | cons x r => simp
theorem piece_len2 {l : Lf} {ns : List ByteArray} (hok : okL l = true) : (pieceB l ns).length ≤ 22 + (ns.getLastD ⟨#[]⟩).size + l.tgt.size + l.data.length := by
  have hc := stretX_len2 l.data
  have h9 : (if l.ty = 1 then cutB l.data else if l.ty = 3 then [(l.tgt.size : Int)] ++ bytesI l.tgt else []).length ≤ 9 + l.tgt.size + l.data.length := by
    split
    · unfold cutB; rw [List.length_append, le_length]; omega
    · split
      · rw [List.length_append, bytesI_length]; simp; omega
      · simp
  unfold pieceB pieceH pieceT
  simp only [List.length_append, List.length_cons, List.length_nil, le_length, bytesI_length]
  omega
theorem tailN_last {l : Lf} {ns : List ByteArray} (h : namesP l.path.data.toList = some ns) (hne : ns ≠ []) : tailN 0 l.path.data.toList = (ns.getLastD ⟨#[]⟩).size := by
  obtain ⟨hp, hn, _, _⟩ := namesP_good h
  have h1 := tailN_path (ns.map fun x => x.data.toList) (fun x hx => by
    obtain ⟨y, hy, rfl⟩ := List.mem_map.1 hx
    exact (nameB_all (hn y hy)).2.1) 0
  rw [List.flatMap_map, if_neg (by simpa using hne)] at h1
  rw [hp]
  unfold pathL
  rw [if_neg hne]
  have h2 : ((ns.map fun x => x.data.toList).getLastD []).length = (ns.getLastD ⟨#[]⟩).size := by
    rw [List.getLastD_eq_getLast?, List.getLastD_eq_getLast?, List.getLast?_map]
    rw [List.getLast?_eq_some_getLast hne]
    rfl
  rw [← h2]
  exact h1
def mostL (l : Lf) : Nat := 22 + tailN 0 l.path.data.toList + l.tgt.size + l.data.length
theorem packX_most {t : List Lf} {L : List Int} (h : packX t = (L, 0)) : L.length ≤ 20 + ((t.drop 1).map mostL).sum := by
  obtain ⟨x, r, rfl, h1, h2, h3, h4, rfl⟩ := packX_ok h
  have hall := restB_all r _ _ h4
  have hr : ∀ r : List Lf, (∀ l ∈ r, okL l = true ∧ namesP l.path.data.toList = some (nmL l) ∧ nmL l ≠ []) → (r.flatMap fun y => pieceB y (nmL y)).length ≤ (r.map mostL).sum := by
    intro r
    induction r with
    | nil => intro _; simp
    | cons l r ih =>
      intro h
      obtain ⟨q1, q2, q3⟩ := h l List.mem_cons_self
      have hp := piece_len2 (ns := nmL l) q1
      have ht := tailN_last q2 q3
      have := ih (fun y hy => h y (List.mem_cons_of_mem _ hy))
      rw [List.flatMap_cons, List.length_append, List.map_cons, List.sum_cons]
      unfold mostL at this ⊢
      omega
  have hl : (headX x).length = 15 := by
    unfold headX
    simp only [List.length_append, le_length, List.length_cons, List.length_nil]
  have := hr r hall
  unfold bodyX
  simp only [List.length_append, le_length, List.length_cons, List.length_nil, hl, List.drop_succ_cons, List.drop_zero]
  omega
end Go.Proofs.YtlnaeppbhjmocaaDoor
set_option linter.unusedSimpArgs false
set_option linter.unusedVariables false
namespace Go.Proofs.YtlnaeppbhjmocaaDoor
open Go.RowKit Go.Proofs

theorem mostL_le {l : Lf} (h1 : okL l = true) (h2 : namesP l.path.data.toList = some (nmL l)) (h3 : nmL l ≠ []) : tailN 0 l.path.data.toList ≤ 63 ∧ l.tgt.size ≤ 127 ∧ l.data.length ≤ 16777216 ∧ mostL l ≤ 33554432 := by
  have ht := tailN_last h2 h3
  have h63 := last_63 h2 h3
  obtain ⟨_, _, _, _, hd, _, a1, a2⟩ := okL_ty h1
  have htg : l.tgt.size ≤ 127 := by
    by_cases h : l.ty = 3
    · have := a2 h
      unfold targetB at this
      rw [Bool.and_eq_true, decide_eq_true_eq] at this
      exact this.1.2
    · rw [a1 h]; decide
  refine ⟨by omega, htg, hd, ?_⟩
  unfold mostL
  omega
theorem most_succ (r : List Lf) (i : Nat) (l : Lf) (h : r[i]? = some l) : ((r.take (i + 1)).map mostL).sum = ((r.take i).map mostL).sum + mostL l := by
  rw [List.take_add_one, h]
  simp
theorem most_le (r : List Lf) (h : ∀ l ∈ r, mostL l ≤ 33554432) : ∀ i, ((r.take i).map mostL).sum ≤ 33554432 * i := by
  intro i
  induction i with
  | zero => simp
  | succ i ih =>
    cases hq : r[i]? with
    | none =>
      rw [List.take_add_one, hq]
      simp only [Option.toList_none, List.append_nil]
      omega
    | some l =>
      rw [most_succ r i l hq]
      have := h l (List.mem_of_getElem? hq)
      omega

set_option maxRecDepth 100000 in
set_option maxHeartbeats 6400000 in
theorem law_Back (A : Option Addr) (c : Nat) (tv : List (Lf × Value)) (w : World) (hw : Ok w) (hg : 4 ≤ w.heap.size) (hT : TIn w A c tv) :
    Calls Tryd.prog 5 #[.slice A tv.length c] w fun e w' => e = .returned (.bool true) ∧ Fr w w' := by
  have hB0 : 0 < w.heap.size := by omega
  obtain ⟨⟨L, er⟩, hP⟩ : ∃ P, packX (tv.map Prod.fst) = P := ⟨_, rfl⟩
  have HPk := Lib.hid (fun W (q : Fr w W) => hT.pack q hB0)
  rw [hP] at HPk
  dsimp only at HPk
  have HHe := Lib.hid (heads_any w hw hg)
  have HNo := Lib.hid (fun x W (q : Fr w W) => no_any x W q.ok)
  by_cases he : er = 0
  · subst he
    have hd : ∀ l ∈ tv.map Prod.fst, bytesOk l.data := fun l hl => by obtain ⟨p, hp, rfl⟩ := List.mem_map.1 hl; exact hT.bytes p hp
    have hst : ∀ l ∈ tv.map Prod.fst, 0 ≤ l.stamp ∧ l.stamp ≤ 18446744073709551615 := fun l hl => by obtain ⟨p, hp, rfl⟩ := List.mem_map.1 hl; exact hT.stamp p hp
    obtain ⟨hLb, hLl, -⟩ := packX_bytes hP hd
    have hLl2 : L.length ≤ 536870932 := by
      have h := hT.sum
      rw [List.map_map] at hLl
      have e : ((fun l : Lf => 256 + 6 * l.data.length) ∘ Prod.fst) = fun p : Lf × Value => 256 + 6 * p.1.data.length := rfl
      rw [e] at hLl
      omega
    have hmore := pack_more hP hst []
    rw [List.append_nil, if_pos rfl] at hmore
    have hmost := packX_most hP
    obtain ⟨x, r, hxr, -, -, hxo, hrest, -⟩ := packX_ok hP
    have hall := restB_all r _ _ hrest
    rw [hxr, List.drop_succ_cons, List.drop_zero] at hmost
    have hms := most_le r (fun l hl => (mostL_le (hall l hl).1 (hall l hl).2.1 (hall l hl).2.2).2.2.2)
    obtain ⟨n, hn⟩ : ∃ n, tv.length = n := ⟨_, rfl⟩
    have hrn : r.length + 1 = n := by rw [← hn, ← List.length_map (f := Prod.fst), hxr, List.length_cons]
    have htl : n ≤ 1048576 := by rw [← hn]; exact hT.len
    have htk : ((r.take (n - 1)).map mostL).sum = (r.map mostL).sum := by rw [List.take_of_length_le (by omega)]
    have HRe := Lib.hid (fun W (q : Fr w W) A c (h1 : BytesAt W A L) (h2 : L.length ≤ c) => by
      have := pread_any A c L W q.ok h1 hLb h2 (by omega) (by have := q.size; omega)
      rw [hmore] at this
      exact this)
    have HAl := Lib.hid (fun W (v : Value) (B : Nat) (q : Fr w W) (h : TreeAt W B v (tv.map Prod.fst)) => by
      have := alike_in q.ok h (hT.at_.fr q) hT.cap rfl (by rw [List.length_map]; omega) (fun p hp => by
        have h1 : p.1 ∈ tv.map Prod.fst := List.mem_map_of_mem hp
        rw [hxr] at h1
        have h2 : p.1.data.length ≤ 16777216 := by
          rcases List.mem_cons.1 h1 with e | e
          · rw [e]; exact (okL_ty hxo).2.2.2.2.1
          · exact (okL_ty (hall _ e).1).2.2.2.2.1
        omega)
      rw [hn] at this
      exact this)
    obtain ⟨TT, hTT⟩ : ∃ TT, tv.map Prod.fst = TT := ⟨_, rfl⟩
    rw [hTT] at HRe HAl
    clear hTT
    obtain ⟨gT, oT, hA, hgT, hcells⟩ := hT.at_.1.resolve_left (by rw [List.map_eq_nil_iff]; intro e; rw [e] at hn; simp at hn; omega)
    have hcell : ∀ i q, tv[i]? = some q → ∀ j v, (lcell q)[j]? = some v → w.cell? ⟨gT, oT + i * 6 + j, none⟩ = some v := fun i q hi j v hv => hcells i (lcell q) (by rw [List.getElem?_map, hi]; rfl) j v (by
      have h1 := (List.getElem?_eq_some_iff.1 hv).1
      have h2 : (lcell q).length = 6 := rfl
      omega) hv
    have HCell := Lib.hid hcell
    have HLf : Hid (∀ i, 1 ≤ i → i < n → ∃ l lv, tv[i]? = some (l, lv) ∧ l ∈ r ∧ ((r.take i).map mostL).sum = ((r.take (i - 1)).map mostL).sum + mostL l ∧ (∃ a d, lv = .slice a l.data.length d) ∧ l.path.size ≤ 1048575) := Lib.hid (fun i h1 h2 => by
      obtain ⟨⟨l, lv⟩, hq⟩ : ∃ q, tv[i]? = some q := ⟨_, List.getElem?_eq_getElem (by omega)⟩
      have hq2 : (tv.map Prod.fst)[i]? = some l := by rw [List.getElem?_map, hq]; rfl
      rw [hxr] at hq2
      obtain ⟨m, rfl⟩ : ∃ m, i = m + 1 := ⟨i - 1, by omega⟩
      rw [List.getElem?_cons_succ] at hq2
      obtain ⟨da, dd, hlv, _⟩ := hT.at_.2 _ (List.mem_of_getElem? hq)
      exact ⟨l, lv, hq, List.mem_of_getElem? hq2, by rw [most_succ r m l hq2]; rfl, ⟨da, dd, hlv⟩, hT.path _ (List.mem_of_getElem? hq)⟩)
    have HMs := Lib.hid (And.intro hms (And.intro hmost (And.intro htk hall)))
    have hE0 : ((0 : Int) != 0) = false := rfl
    have HTL := Lib.hid (And.intro htl hrn)
    rw [hn] at HPk ⊢
    subst hA
    clear hP hd hst hLb hLl hmore hmost hxr hxo hrest hall hms htk hT hn hcells hcell hrn htl
    go_enter Tryd.func5, Tryd.ntmps5
    go_wp2_with (first
      | (go_at_call 24; refine HHe.out.mono ?_; rintro e w1 ⟨rfl, q⟩)
      | (go_at_call 21; refine (HPk.out _ q).mono ?_; rintro e w4 ⟨v4, rfl, O4, q4⟩; replace q := q.trans q4; clear q4; go_loud (obtain ⟨a4, d4, rfl⟩ := O4.form); have tok1 := trivial)
      | (go_at_call 16; have _t := tok1; refine (HNo.out 0 _ q).mono ?_; rintro e w5 ⟨rfl, q5⟩; replace O4 := OwnB.fr O4 q5; replace q := q.trans q5; clear q5 tok1)
      | (go_at_call 15; refine (HRe.out _ q _ _ O4.at.1 O4.at.2.2).mono ?_; rintro e w8 ⟨v8, rfl, q8, T8⟩; replace q := q.trans q8; (obtain ⟨B8, T8'⟩ : ∃ B, TreeAt w8 B v8 TT := ⟨_, T8⟩); clear T8 q8; have tok2 := trivial)
      | (go_at_call 16; have _t := tok2; refine (HNo.out 0 _ q).mono ?_; rintro e w9 ⟨rfl, q9⟩; replace T8' := TreeAt.fr T8' q9; replace q := q.trans q9; clear q9 tok2)
      | (go_at_call 17; refine (HAl.out _ _ _ q T8').mono ?_; rintro e w10 ⟨rfl, q10⟩; replace q := q.trans q10; clear q10))
    go_loopg [7, 8] (n - 1) (fun k v7 v8 wc => ∃ i m : Nat, i + k = n ∧ 1 ≤ i ∧ v8 = .int .i64 i ∧ v7 = .int .i64 m ∧ Hid (m = 20 + ((r.take (i - 1)).map mostL).sum) ∧ Hid (Fr w wc))
    case atStart => exact ⟨1, 20, by have := HTL.out; omega, Nat.le_refl _, rfl, rfl, Lib.hid rfl, Lib.hid q⟩
    case round =>
      clear q O4 T8'
      obtain ⟨i, m, hik, hi1, rfl, rfl, HM, HF⟩ := hrel
      cases gk with
      | zero =>
        obtain rfl : i = n := by omega
        have d1 : decide ((i : Int) < (i : Int)) = false := decide_eq_false (by omega)
        have d2 : (L.length : Int) ≤ (m : Int) := by have h1 := HM.out; have h2 := HMs.out.2.1; have h3 := HMs.out.2.2.1; rw [h1, h3]; omega
        go_wp2_with fail
        go_ret
        exact ⟨rfl, HF.out⟩
      | succ k =>
        obtain ⟨l, lv, hq, hlr, hsum, ⟨da, dd, rfl⟩, hps⟩ := HLf.out i hi1 (by omega)
        have hml := mostL_le (HMs.out.2.2.2 l hlr).1 (HMs.out.2.2.2 l hlr).2.1 (HMs.out.2.2.2 l hlr).2.2
        have hmb : m ≤ 20 + 33554432 * 1048576 := by have h1 := HM.out; have h2 := HMs.out.1 (i - 1); have := HTL.out.1; omega
        have HS := Lib.hid hsum
        have hnb := HTL.out.1
        have d1 : decide ((i : Int) < (n : Int)) = true := decide_eq_true (by omega)
        have d3 : (0 : Int) ≤ (i : Int) := by omega
        have d4 : (i : Int) < (n : Int) := by omega
        have b0 := HF.out.cell (HCell.out i _ hq 0 _ rfl)
        have b4 := HF.out.cell (HCell.out i _ hq 4 _ rfl)
        have b5 := HF.out.cell (HCell.out i _ hq 5 _ rfl)
        simp only [Nat.add_zero] at b0
        obtain ⟨pp, ty, md, stp, dat, tgt⟩ := l
        dsimp only at hml hps b0 b4 b5
        obtain ⟨sz, hsz⟩ : ∃ sz, pp.size = sz := ⟨_, rfl⟩
        obtain ⟨tz, htz⟩ : ∃ sz, tgt.size = sz := ⟨_, rfl⟩
        obtain ⟨dz, hdz⟩ : ∃ sz, dat.length = sz := ⟨_, rfl⟩
        obtain ⟨tn, htn⟩ : ∃ t, tailN 0 pp.data.toList = t := ⟨_, rfl⟩
        have hmo : Hid (mostL ⟨pp, ty, md, stp, dat, tgt⟩ = 22 + tn + tz + dz) := Lib.hid (by unfold mostL; dsimp only; rw [htn, htz, hdz])
        rw [htn, htz, hdz] at hml
        rw [hdz] at b4
        have HTN := Lib.hid htn
        have HDZ := Lib.hid hdz
        have hmb2 := hml.1
        have hmb3 := hml.2.1
        have hmb4 := hml.2.2.1
        clear htn hdz hsum hml hlr hq
        go_wp2_with fail
        go_loopg [9, 10] sz (fun k v9 v10 wc => ∃ j t : Nat, j + k = sz ∧ v9 = .int .i64 t ∧ v10 = .int .i64 j ∧ t ≤ j ∧ wc = wr ∧ Hid (tailN t (pp.data.toList.drop j) = tn))
        case atStart => exact ⟨0, 0, by omega, rfl, rfl, Nat.le_refl _, rfl, HTN⟩
        case round =>
          obtain ⟨j, t, hjk, rfl, rfl, htj, rfl, HJ⟩ := hrel
          cases gk with
          | zero =>
            obtain rfl : j = sz := by omega
            have e1 : decide ((j : Int) < (j : Int)) = false := decide_eq_false (by omega)
            have hjt : t = tn := by
              have := HJ.out
              rw [List.drop_eq_nil_of_le (by rw [Array.length_toList]; exact Nat.le_of_eq hsz)] at this
              exact this
            have f := Fr.refl HF.out.ok
            go_wp2_with fail
            have r_b0 := cell_regrown b0
            have r_b4 := cell_regrown b4
            have r_b5 := cell_regrown b5
            refine wp_region_quiet_below (by kernel_rfl) (by kernel_rfl) ?_
            repeat (go_big_quiet_step (fail))
            refine wpQuiet_nil ?_
            intro wq hwq
            have q := Fr.regrown f.ok hwq
            clear hwq r_b0 r_b4 r_b5
            replace b0 := q.cell b0
            replace b4 := q.cell b4
            replace b5 := q.cell b5
            replace f := f.trans q
            clear q
            go_wp2_with fail
            go_roundg k
            case measure => omega
            case rel => exact ⟨i + 1, m + 22 + tn + tz + dz, by omega, by omega, by go_num, by rw [← hjt]; go_num, Lib.hid (by rw [Nat.add_sub_cancel, HS.out, hmo.out, HM.out]; omega), Lib.hid (HF.out.trans f)⟩
          | succ k2 =>
            have hj : j < pp.size := by omega
            have e1 : decide ((j : Int) < (sz : Int)) = true := decide_eq_true (by omega)
            have e2 : (j : Int) < (pp.size : Int) := by omega
            have e3 : (0 : Int) ≤ (j : Int) := by omega
            have hd : pp.data.toList.drop j = pp[j] :: pp.data.toList.drop (j + 1) := by
              rw [List.drop_eq_getElem_cons (by simpa using hj)]; rfl
            have hj2 := HJ.out
            rw [hd, tailN] at hj2
            clear hd HJ
            by_cases hc : pp[j] = 47
            · rw [if_pos hc] at hj2
              have e4 : ((pp[j].toNat : Int) == 47) = true := by rw [hc]; rfl
              have HJ2 := Lib.hid hj2
              clear hj2 hc
              go_wp2_with fail
              go_roundg k2
              case measure => omega
              case rel => exact ⟨j + 1, 0, by omega, rfl, by go_num, by omega, rfl, HJ2⟩
            · rw [if_neg hc] at hj2
              have e4 : ((pp[j].toNat : Int) == 47) = false := by
                rw [beq_eq_false_iff_ne]
                intro h
                apply hc
                have h2 : pp[j].toNat = 47 := by omega
                exact UInt8.toNat_inj.1 h2
              have HJ2 := Lib.hid hj2
              clear hj2 hc
              go_wp2_with fail
              go_roundg k2
              case measure => omega
              case rel => exact ⟨j + 1, t + 1, by omega, by go_num, by go_num, by omega, rfl, HJ2⟩
  · have hE0 : (er != 0) = true := by simp [he]
    have hL0 : L = [] := by
      have := packX_err (t := tv.map Prod.fst) (by rw [hP]; exact he)
      rw [hP] at this
      exact this
    subst hL0
    clear hP
    go_enter Tryd.func5, Tryd.ntmps5
    go_wp2_with (first
      | (go_at_call 24; refine HHe.out.mono ?_; rintro e w1 ⟨rfl, q⟩)
      | (go_at_call 21; refine (HPk.out _ q).mono ?_; rintro e w4 ⟨v4, rfl, O4, q4⟩; replace q := q.trans q4; clear q4; go_loud (obtain ⟨a4, d4, rfl⟩ := O4.form))
      | (go_at_call 16; refine (HNo.out er _ q).mono ?_; rintro e w5 ⟨rfl, q5⟩; replace q := q.trans q5; clear q5))
    exact ⟨rfl, _, results_tmp rfl _ _ _, rfl, q⟩
end Go.Proofs.YtlnaeppbhjmocaaDoor
set_option linter.unusedSimpArgs false
set_option linter.unusedVariables false
namespace Go.Proofs.YtlnaeppbhjmocaaDoor.parcelBack
open Go.ChangeShapes Go.WideShapes Go.ChangeAt Go.RowKit

theorem laidOf {W : World} (h : laidMetH Tryd.prog Rows.parcelBackUptoRow.laid W) : laidMet Tryd.prog Rows.parcelBackUptoRow.laid W := by
  rwa [MakeChecks.laidMetH_plain _ _ _ (by kernel_rfl)] at h
theorem okOf {W : World} (h : laidMetH Tryd.prog Rows.parcelBackUptoRow.laid W) : Ok W where
  fours := okFours (Lib.laidMet.reads (laidOf h) (List.mem_cons_of_mem _ List.mem_cons_self))

set_option maxRecDepth 100000 in
theorem contract (H : Type) (enc : TypeId × Value → H) (W : World) (base : Nat) (args : Array Value) (ds gs : List (DataW H)) (before : List MemPlace)
    (hval : ∀ (j : Nat) t v, Tryd.f5.params[j]? = some t → args[j]? = some v → Value.okWide Tryd.prog W .any base t v)
    (hW : DataW.Whole enc Tryd.prog Tryd.f5.params.toList Rows.parcelBackSpec.vars false W args.toList ds gs before) (hS : Rows.uptoSmall H (ds ++ gs) = true) (hL : laidMetH Tryd.prog Rows.parcelBackUptoRow.laid W) (hSh : W.ShapedOpen Tryd.prog) :
    Calls Tryd.prog 5 args W fun e W' => ∃ v, e = .returned v ∧ Rows.parcelBackSpec.post enc Tryd.prog Tryd.f5 false true false false W args v W' := by
  have hW' := hW
  obtain ⟨p, q, hA0, hV, rfl, hfz, hnd⟩ := hW
  have hA : DataW.TrodAll enc Tryd.prog W 0 (fun _ => true) true Tryd.f5.params.toList args.toList ds p := hA0
  rw [Tryd.params5] at hA hval
  obtain ⟨v0, vs0, d0, ds0, p0, q0, hargs, rfl, rfl, h0, r0⟩ := trodAll_cons hA
  obtain ⟨rfl, rfl, rfl⟩ := trodAll_nil r0
  obtain rfl : args = #[v0] := by cases args; simp_all
  obtain ⟨rfl, rfl⟩ := trodVars_none hV
  clear hA0
  simp only [List.append_nil] at hW'
  have hsz : Rows.uptoBulk d0 ≤ 1048576 := by
    have : Rows.uptoBulkAll ([d0] ++ []) ≤ 1048576 := by simpa [Rows.uptoSmall] using hS
    simp only [List.append_nil, Rows.uptoBulkAll] at this
    omega
  obtain ⟨A0, n0, c0, rfl⟩ := okWide_slice Tryd.underlying26 (hval 0 26 v0 rfl rfl)
  obtain ⟨fuel0, h0⟩ := h0
  obtain ⟨tv0, A', c', e, hT0, _⟩ := open_tree h0 hsz
  simp only [Value.cells] at e
  injection e with e _
  injection e with e1 e2 e3
  subst e1 e2 e3
  have walk : Calls Tryd.prog 5 #[.slice A0 tv0.length c0] W fun e w' => e = .returned (.bool true) ∧ Fr W w' :=
    law_Back A0 c0 tv0 W (okOf hL) (sizeOf hSh) hT0
  refine walk.mono fun e W' ⟨he, hg⟩ => ?_
  subst he
  have hlt : ∀ x ∈ p0 ++ ([] : List MemPlace), x.block < W.heap.size := fun x hx => by simpa using hW'.lt x (by simpa using hx)
  exact ⟨_, rfl, post_of_below (pa := p0 ++ []) (pv := []) hW' (fun _ _ _ => trodAll_cons_mk (shut_bool Tryd.underlying4 _) trodAll_mk0)
    (fun sp hsp => trodAll_below laidOut hg.below (by rw [Tryd.params5]; simp only [List.mem_cons, List.not_mem_nil, or_false, forall_eq_or_imp, forall_eq]; exact ⟨by kernel_rfl, of_decide_eq_true (by kernel_rfl)⟩) (by rw [Tryd.params5]; exact hA) hlt (fun x hx => hsp x (by simpa using hx)))
    (fun _ _ => rfl) (by simp) hg.below (ok_one (by kernel_rfl) rfl (okWide_bool_mk Tryd.underlying4 _))⟩

/-- A WORLD FOR THE WITNESS: the settled one, the listed variables as they are laid. -/
def cells1 : DataW Unit → List Value
  | .lit (.int k z) => [.int k z]
  | .lit (.string s) => [.string ⟨s.toArray⟩]
  | .agg l => l.map fun d => match d with
    | .lit (.int k z) => Value.int k z
    | _ => Value.bool false
  | _ => []
def cellsOfData : DataW Unit → Array Value
  | .agg l => (l.flatMap cells1).toArray
  | _ => #[]
def layCells (cs : Array Value) : Obj → Obj
  | .cells _ t frozen => .cells cs t frozen
  | o => o
def layAt (d : DataW Unit) : Obj → Obj := layCells (cellsOfData d)
noncomputable def laidWorld (os : Os) : World :=
  let w0 := World.holding Tryd.prog os ⟨#[], #[], []⟩
  { w0 with heap := ((w0.heap.modify 3 (layAt Rows.laid_unicode_utf8_acceptRanges)).modify 0 (layAt Rows.laid_shale_words_fours)).modify 2 (layAt Rows.laid_unicode_utf8_first) }
def wArgs : Array Value := #[.slice none 0 0]
theorem laid_met (os : Os) : laidMet Tryd.prog Rows.parcelBackUptoRow.laid ((laidWorld os).forCall (fun _ _ => 0) ⟨#[], wArgs, []⟩).memory :=
  laidMet_of_run' 8 (by kernel_rfl) (by kernel_rfl)
theorem reads (os : Os) {H : Type} (enc : TypeId × Value → H) : ∃ places, DataW.whole enc Tryd.prog ((laidWorld os).forCall (fun _ _ => 0) ⟨#[], wArgs, []⟩).memory Tryd.f5.params.toList Rows.parcelBackSpec.vars false wArgs.toList 8 = some ([.nil], [], places) :=
  ⟨[], by kernel_rfl⟩

set_option maxRecDepth 100000 in
theorem lifted (os : Os) (started : os.Started) (H : Type) (enc : TypeId × Value → H) (F : Stop.Interp) :
    ReturnsInHanded {} Tryd.checked os 5 .any ((Rows.OpenSpec.upto Rows.parcelBackSpec).preRow enc Tryd.prog Tryd.f5 Rows.parcelBackUptoRow.domain false Rows.parcelBackUptoRow.laid) (((Rows.OpenSpec.upto Rows.parcelBackSpec).at F).post enc Tryd.prog Tryd.f5 false true false false) := by
  obtain ⟨places, hx⟩ := reads os enc
  refine returnsInHanded_of_row (C := Tryd.checked) (s := Rows.OpenSpec.upto Rows.parcelBackSpec) own started (by kernel_rfl) Tryd.func5
    (witness_row_at (enc := enc) (C := Tryd.checked) false (laidWorld os) wArgs rfl (by kernel_rfl) (by kernel_rfl) (by kernel_rfl)
      (OpenSpec.preRow_of_cond 8 hx (by kernel_rfl) (fun k hk => by cases hk; kernel_rfl) (by kernel_rfl) (laid_met os))) ?_
  intro W base args ds gs before hval hW _ hcond _ hL hSh _
  exact contract H enc W base args ds gs before hval hW (hcond _ rfl) hL hSh

theorem said : Rows.ParcelBackUptoSaid :=
  OpenClaim.holds_of_cond 5 Tryd.f5 rfl rfl rfl rfl rfl rfl rfl ⟨rfl, rfl, rfl, rfl, rfl⟩ rfl rfl rfl rfl rfl (by kernel_rfl) Tryd.func5 (by kernel_rfl)
    (of_decide_eq_true (by kernel_rfl)) (by unfold Func.isWrapper; first | (rw [if_pos (by decide +kernel)]; kernel_rfl) | (rw [if_neg (by decide +kernel)]; exact ⟨rfl, rfl⟩))
    (fun os started H enc _ F => by rw [OpenClaim.pre_eq_preRow]; exact lifted os started H enc F)

theorem plain (f : FuncId) (fn : Func) (hf : Tryd.pinned.checked.prog.funcNamed "shale/shalelaw18.ParcelBack" = some f) (hfn : Tryd.pinned.checked.prog.funcs[f]? = some fn) :
    true = Tryd.pinned.checked.prog.looks [] ∧ ∀ (j : Nat) t, fn.params[j]? = some t → Tryd.pinned.checked.prog.wantsStandIn t = false := by
  obtain rfl : f = 5 := Option.some.inj ((show Tryd.prog.funcNamed "shale/shalelaw18.ParcelBack" = some 5 by kernel_rfl).symm.trans hf) |>.symm
  obtain rfl : fn = Tryd.f5 := (Option.some.inj (Tryd.func5.symm.trans hfn)).symm
  refine ⟨by kernel_rfl, fun j t ht => ?_⟩
  rw [Tryd.params5] at ht
  have hm : t = 26 := by simpa using Array.mem_of_getElem? ht
  subst hm
  · exact (show Tryd.prog.wantsStandIn 26 = false by kernel_rfl)

theorem card : Rows.ParcelBackUptoCardSaid :=
  Claim7.holds_tied_plain_at .later [] _ _ _ _ said (fun _ h => by cases h) (by kernel_rfl) (fun _ h => by cases h) parcelBackUpto_row_tie rfl ⟨rfl, rfl⟩ (by kernel_rfl) rfl plain (by kernel_rfl)
end Go.Proofs.YtlnaeppbhjmocaaDoor.parcelBack
namespace Go.Proofs.YtlnaeppbhjmocaaDoor
theorem cardWhole : Rows.ParcelWholeUptoCardSaid := parcelWhole.card
theorem cardBack : Rows.ParcelBackUptoCardSaid := parcelBack.card
end Go.Proofs.YtlnaeppbhjmocaaDoor
