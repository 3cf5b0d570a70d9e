/- Steps of a row of bytes that a function keeps in a box, a leaf beside it; append of a text's bytes. -/
import Derived.Test.YtlnaeppbhjmocaaDoorV4
import Derived.Test.YtlnaeppbhjmocaaDoorPalikex1
import Derived.Test.YtlnaeppbhjmocaaDoorPsamex1
import Derived.Test.YtlnaeppbhjmocaaDoorPnox1
import Derived.Laws.MakeOwn
import Derived.Lib.IndexLaws
import Derived.RangeFuncNested
import Derived.RangeFuncBound
import Derived.Lib.AppendStr
set_option linter.unusedSectionVars false
set_option linter.unnecessarySimpa false
set_option linter.unusedSimpArgs false
set_option linter.unusedVariables false
set_option linter.unusedSimpArgs false
set_option linter.unusedVariables false
namespace Go.Proofs.YtlnaeppbhjmocaaDoor
open Go.RowKit Go.Proofs Go.Proofs.YtlnaeppbhjmocaaDoorW.PrintWords Go.Proofs.YtlnaeppbhjmocaaDoorW.PrintMore

theorem same_true {w : World} (hw : Ok w) {A A' : Option Addr} {c c' : Nat} {xs : List Int} (h : BytesAt w A xs) (h' : BytesAt w A' xs) (hc : xs.length ≤ c) (hc' : xs.length ≤ c') (hL : xs.length ≤ 1099511627776) :
    Calls Tryd.prog 22 #[.slice A xs.length c, .slice A' xs.length c'] w fun e w' => e = .returned (.bool true) ∧ Fr w w' := by
  refine (Psame.shalelaw18_same.calls A c xs A' c' xs true w (h.toC (by omega)) hc (h'.toC (by omega)) hc' ?_).mono fun e w' ⟨he, hb⟩ => ⟨he, Fr.of hw hb.below⟩
  unfold Psame.shalelaw18_same.f
  simp
theorem no_any (x : Int) (w : World) (hw : Ok w) : Calls Tryd.prog 16 #[.int .i64 x] w fun e w' => e = .returned (.int .i64 x) ∧ Fr w w' :=
  (Pno.shalelaw18_no.calls x x w rfl).mono fun e w' ⟨he, hb⟩ => ⟨he, Fr.of hw hb.below⟩
/-! ### Two trees of the same leaves -/
def toS (p : Lf × Value) : Palike.S45 := ⟨p.1.path, p.1.ty, p.1.mode, p.1.stamp, p.1.data, p.1.tgt⟩
def toS1 (l : Lf) : Palike.S45 := ⟨l.path, l.ty, l.mode, l.stamp, l.data, l.tgt⟩
theorem tree_C {w : World} {B : Nat} {a : Option Addr} {c : Nat} {tv : List (Lf × Value)} (h : w.ownsRow B 45 6 (.slice a tv.length c) tv.length (lflat tv)) (hl : LO w B tv) (hn : tv.length ≤ 1099511627776) :
    Kd.C Palike.k45 w a (tv.map toS).length (tv.map toS) ∧ (tv.map toS).length ≤ c := by
  have hcap : tv.length ≤ c := own_cap h
  refine ⟨⟨rfl, by rw [List.length_map]; omega, fun h0 => ?_⟩, by rw [List.length_map]; exact hcap⟩
  rw [List.length_map] at h0
  obtain ⟨g, c', hv, _, _⟩ := World.ownsRow.form h h0
  injection hv with e1 e2 e3
  subst e1 e3
  have hR := own_Row (xs := []) (lcell_len tv) (by rw [List.append_nil]; exact h)
  refine ⟨_, rfl, fun j p hj => ?_⟩
  rw [List.getElem?_map, Option.map_eq_some_iff] at hj
  obtain ⟨q, hq, rfl⟩ := hj
  have hO := hl q (List.mem_of_getElem? hq)
  obtain ⟨da, dc, hdv⟩ := hO.form
  have hO2 := hO
  rw [hdv] at hO2
  obtain ⟨_, hdl, hdC⟩ := hO2.toC
  refine ⟨lcell q, rfl, ?_, fun i u hu => ?_⟩
  · have := Palike.k45_mk w (toS q) (A4 := da) (c4 := dc) hdl hdC
    unfold lcell
    rw [hdv]
    exact this
  · rcases hR with hR | ⟨g', o', e, _, hR⟩
    · have : tv = [] := by simpa using hR
      rw [this] at h0; simp at h0
    · injection e with e; injection e with e1 e2; subst e1 e2
      have hi : i < 6 := by
        have := (List.getElem?_eq_some_iff.1 hu).1
        have hl6 : (lcell q).length = 6 := rfl
        omega
      have := hR j (lcell q) (by rw [List.getElem?_map, hq]; rfl) i u hi hu
      have hsz : Palike.k45.sz = 6 := rfl
      rw [hsz, Lib.add_plain]
      rw [show 0 + (j * 6 + i) = 0 + j * 6 + i by omega]
      exact this
theorem leaf_same (x : Palike.S45) : Palike.shalelaw18_leaf.f x.f0 x.f1 x.f2 x.f3 x.f4 x.f5 x.f0 x.f1 x.f2 x.f3 x.f4 x.f5 = some true := by
  unfold Palike.shalelaw18_leaf.f
  simp [Palike.shalelaw18_same.f]
theorem alike_l0 (l : List Palike.S45) (hl : l.length ≤ 1099511627776) : ∀ (d i : Nat), i + d = l.length → Palike.shalelaw18_alike.l0 (d + 1) l l (i : Int) = some true := by
  intro d
  induction d with
  | zero =>
    intro i hi
    simp only [Palike.shalelaw18_alike.l0]
    rw [if_neg (by omega)]
  | succ d ih =>
    intro i hi
    have e3 : wrap64 ((i : Int) + 1) = ((i + 1 : Nat) : Int) := by rw [wr64 ⟨by omega, by omega⟩]; omega
    obtain ⟨D, hD⟩ : ∃ D, d + 1 = D := ⟨_, rfl⟩
    rw [hD]
    simp only [Palike.shalelaw18_alike.l0]
    rw [if_pos (by omega), if_pos (by omega), if_pos (by omega), leaf_same, Option.bind_some, if_pos rfl, e3, ← hD]
    exact ih (i + 1) (by omega)
theorem alike_f (l : List Palike.S45) (hl : l.length ≤ 1099511627776) : Palike.shalelaw18_alike.f (l.length + 1) l l = some true := by
  unfold Palike.shalelaw18_alike.f
  rw [if_pos rfl]
  exact alike_l0 l hl l.length 0 (by omega)
end Go.Proofs.YtlnaeppbhjmocaaDoor
set_option linter.unusedSimpArgs false
set_option linter.unusedVariables false
namespace Go.Proofs.YtlnaeppbhjmocaaDoor
open Go.RowKit Go.Proofs Go.Proofs.YtlnaeppbhjmocaaDoorW.PrintWords Go.Proofs.YtlnaeppbhjmocaaDoorW.PrintLast Go.Proofs.YtlnaeppbhjmocaaDoorW.PrintMore

/-- where the next hole begins and ends, from a place i on at which 'run' bytes 0 have come -/
def nhL : List Int → Nat → Nat → Nat × Nat
  | [], run, i => if 16 ≤ run then (i - run, i) else (i, i)
  | x :: r, run, i => if x = 0 then nhL r (run + 1) (i + 1) else if 16 ≤ run then (i - run, i) else nhL r 0 (i + 1)
theorem nhL_bounds (l : List Int) : ∀ (run i : Nat), run ≤ i → i - run ≤ (nhL l run i).1 ∧ (nhL l run i).1 ≤ (nhL l run i).2 ∧ i ≤ (nhL l run i).2 ∧ (nhL l run i).2 ≤ i + l.length ∧ (run < 16 → l ≠ [] → i < (nhL l run i).2) := by
  induction l with
  | nil =>
    intro run i hr
    rw [nhL]
    split
    · refine ⟨Nat.le_refl _, by show i - run ≤ i; omega, Nat.le_refl _, by simp, fun h => by omega⟩
    · refine ⟨by show i - run ≤ i; omega, Nat.le_refl _, Nat.le_refl _, by simp, fun _ h => absurd rfl h⟩
  | cons x r ih =>
    intro run i hr
    rw [nhL, List.length_cons]
    split
    · obtain ⟨h1, h2, h3, h4, _⟩ := ih (run + 1) (i + 1) (by omega)
      exact ⟨by omega, h2, by omega, by omega, fun _ _ => by omega⟩
    · split
      · refine ⟨Nat.le_refl _, by show i - run ≤ i; omega, Nat.le_refl _, by show i ≤ _; omega, fun h => by omega⟩
      · obtain ⟨h1, h2, h3, h4, _⟩ := ih 0 (i + 1) (by omega)
        exact ⟨by omega, h2, by omega, by omega, fun _ _ => by omega⟩
theorem nh_val (l : List Int) (hl : l.length ≤ 1073741824) : ∀ (d i run : Nat), i + d = l.length → run ≤ i → PnextHole.parcel_nextHole.l0 (d + 1) l (run : Int) (i : Int) = some (((nhL (l.drop i) run i).1 : Int), ((nhL (l.drop i) run i).2 : Int)) := by
  intro d
  induction d with
  | zero =>
    intro i run hi hr
    have hd : l.drop i = [] := List.drop_eq_nil_of_le (by omega)
    rw [hd]
    simp only [PnextHole.parcel_nextHole.l0, nhL]
    rw [if_neg (by omega)]
    by_cases h16 : 16 ≤ run
    · rw [if_pos (by omega), if_pos h16, wr64 ⟨by omega, by omega⟩]
      congr 2 <;> omega
    · rw [if_neg (by omega), if_neg h16]
      congr 2 <;> omega
  | succ d ih =>
    intro i run hi hr
    have hlt : i < l.length := by omega
    have hd : l.drop i = l[i] :: l.drop (i + 1) := List.drop_eq_getElem_cons hlt
    have hrd : rd l (i : Int) = l[i] := by unfold rd; rw [Int.toNat_natCast]; simp [List.getD, hlt]
    have e3 : wrap64 ((i : Int) + 1) = ((i + 1 : Nat) : Int) := by rw [wr64 ⟨by omega, by omega⟩]; omega
    have e4 : wrap64 ((run : Int) + 1) = ((run + 1 : Nat) : Int) := by rw [wr64 ⟨by omega, by omega⟩]; omega
    obtain ⟨D, hD⟩ : ∃ D, d + 1 = D := ⟨_, rfl⟩
    rw [hD]
    simp only [PnextHole.parcel_nextHole.l0]
    rw [if_pos (by omega), if_pos (by omega), hrd, e3, e4, hd, ← hD, nhL]
    by_cases h0 : l[i] = 0
    · rw [if_pos h0, if_pos h0]
      exact ih (i + 1) (run + 1) (by omega) (by omega)
    · rw [if_neg h0, if_neg h0]
      by_cases h16 : 16 ≤ run
      · rw [if_pos (by omega), if_pos h16, wr64 ⟨by omega, by omega⟩]
        congr 2
        omega
      · rw [if_neg (by omega), if_neg h16]
        exact ih (i + 1) 0 (by omega) (by omega)
theorem nextHole_val (A : Option Addr) (c : Nat) (L : List Int) (i : Nat) (hi : i ≤ L.length) (hc : L.length ≤ c) (hL : L.length ≤ 1073741824) (w : World) (hw : Ok w) (hA : BytesAt w A L) :
    Calls Tryd.prog 79 #[.slice A L.length c, .int .i64 i] w fun e w' => e = .returned (.tuple #[.int .i64 (nhL (L.drop i) 0 i).1, .int .i64 (nhL (L.drop i) 0 i).2]) ∧ Fr w w' :=
  (PnextHole.parcel_nextHole.calls (L.length - i + 1) A c L i _ _ w (hA.toC (by omega)) hc (nh_val L hL (L.length - i) i 0 (by omega) (by omega))).mono fun e w' ⟨he, hd⟩ => ⟨he, Fr.of hw hd.below⟩

/-- the stretches from a place on: their kind (1 bytes, 0 a hole), place, size -/
def stretS (L : List Int) : Nat → Nat → List (Nat × Nat × Nat)
  | 0, _ => []
  | k + 1, i => if i < L.length then
      (if i < (nhL (L.drop i) 0 i).1 then [(1, i, (nhL (L.drop i) 0 i).1 - i)] else []) ++
      ((if (nhL (L.drop i) 0 i).1 < (nhL (L.drop i) 0 i).2 then [(0, (nhL (L.drop i) 0 i).1, (nhL (L.drop i) 0 i).2 - (nhL (L.drop i) 0 i).1)] else []) ++ stretS L k (nhL (L.drop i) 0 i).2) else []
def stretX (L : List Int) : List (Nat × Nat × Nat) := stretS L L.length 0
theorem stretS_more (L : List Int) : ∀ (k m i : Nat), L.length ≤ i + k → L.length ≤ i + m → stretS L k i = stretS L m i := by
  intro k
  induction k with
  | zero =>
    intro m i h1 h2
    cases m with
    | zero => rfl
    | succ m => rw [stretS, stretS, if_neg (by omega)]
  | succ k ih =>
    intro m i h1 h2
    cases m with
    | zero => rw [stretS, stretS, if_neg (by omega)]
    | succ m =>
      rw [stretS, stretS]
      by_cases hi : i < L.length
      · have hb := (nhL_bounds (L.drop i) 0 i (by omega)).2.2.2.2 (by omega) (fun e => by have := congrArg List.length e; simp at this; omega)
        rw [if_pos hi, if_pos hi, ih m _ (by omega) (by omega)]
      · rw [if_neg hi, if_neg hi]
end Go.Proofs.YtlnaeppbhjmocaaDoor
set_option linter.unusedSimpArgs false
set_option linter.unusedVariables false
namespace Go.Proofs.YtlnaeppbhjmocaaDoor
open Go.RowKit Go.Proofs

theorem lead0_le (l : List Int) : lead0 l ≤ l.length := by
  induction l with
  | nil => simp [lead0]
  | cons x r ih => rw [lead0]; split <;> simp <;> omega
theorem lead0_drop (l : List Int) : l.drop (lead0 l) = [] ∨ ∃ x r, l.drop (lead0 l) = x :: r ∧ x ≠ 0 := by
  induction l with
  | nil => simp [lead0]
  | cons x r ih =>
    rw [lead0]
    split
    · exact ih
    · exact .inr ⟨x, r, rfl, by assumption⟩
/-- nextHole over the zeros that come first -/
theorem nhL_lead (l : List Int) : ∀ run i, nhL l run i = nhL (l.drop (lead0 l)) (run + lead0 l) (i + lead0 l) := by
  induction l with
  | nil => intro run i; simp [lead0]
  | cons x r ih =>
    intro run i
    rw [lead0]
    by_cases h : x = 0
    · rw [if_pos h, nhL, if_pos h, ih, List.drop_succ_cons]
      congr 1 <;> omega
    · rw [if_neg h]; rfl
theorem nhL_hole (l : List Int) (i : Nat) (h : 16 ≤ lead0 l) : nhL l 0 i = (i, i + lead0 l) := by
  rw [nhL_lead, Nat.zero_add]
  rcases lead0_drop l with e | ⟨x, r, e, hx⟩
  · rw [e, nhL, if_pos h]; congr 1; omega
  · rw [e, nhL, if_neg hx, if_pos h]; congr 1; omega
theorem nhL_end (l : List Int) (i : Nat) (h : lead0 l < 16) (he : l.drop (lead0 l) = []) : nhL l 0 i = (i + lead0 l, i + lead0 l) := by
  rw [nhL_lead, Nat.zero_add, he, nhL, if_neg (by omega)]
theorem nhL_next (l : List Int) (i : Nat) (h : lead0 l < 16) {x : Int} {r : List Int} (he : l.drop (lead0 l) = x :: r) (hx : x ≠ 0) : nhL l 0 i = nhL r 0 (i + lead0 l + 1) := by
  rw [nhL_lead, Nat.zero_add, he, nhL, if_neg hx, if_neg (by omega)]
/-- the document's search of a filled stretch's end -/
def scanS (L : List Int) : Nat → Nat → Nat
  | 0, k => k
  | f + 1, k => if k < L.length then (if 16 ≤ lead0 (L.drop k) then k else scanS L f (if lead0 (L.drop k) = 0 then k + 1 else k + lead0 (L.drop k))) else k
def stretchS (L : List Int) (i : Nat) : Nat × Bool := if 16 ≤ lead0 (L.drop i) then (i + lead0 (L.drop i), true) else (scanS L (L.length - i) i, false)
/-- the document's end of a filled stretch is where the program's next hole begins -/
theorem scanS_nh (L : List Int) : ∀ (d f k : Nat), k + d = L.length → d ≤ f → scanS L f k = (nhL (L.drop k) 0 k).1 := by
  intro d
  induction d using Nat.strongRecOn with
  | _ d ih =>
  intro f k hd hf
  obtain ⟨Z, hZ⟩ : ∃ Z, lead0 (L.drop k) = Z := ⟨_, rfl⟩
  have hzl := lead0_le (L.drop k)
  rw [List.length_drop, hZ] at hzl
  cases f with
  | zero =>
    obtain rfl : d = 0 := by omega
    have e : L.drop k = [] := List.drop_eq_nil_of_le (by omega)
    rw [e, scanS, nhL, if_neg (by omega)]
  | succ f =>
    rw [scanS]
    by_cases hk : k < L.length
    · rw [if_pos hk, hZ]
      by_cases h16 : 16 ≤ Z
      · rw [if_pos h16, nhL_hole _ _ (by omega)]
      · rw [if_neg h16]
        rcases lead0_drop (L.drop k) with e | ⟨x, r, e, hx⟩
        · rw [hZ, List.drop_drop] at e
          have hlen : L.length ≤ k + Z := by
            have := congrArg List.length e
            simp at this; omega
          rw [nhL_end _ _ (by omega) (by rw [hZ, List.drop_drop]; exact e), hZ]
          rw [if_neg (by omega)]
          cases f with
          | zero => rw [scanS]
          | succ f => rw [scanS, if_neg (by omega)]
        · rw [nhL_next _ _ (by omega) e hx, hZ]
          rw [hZ, List.drop_drop] at e
          have hlen : k + Z < L.length := by
            have := congrArg List.length e
            simp at this; omega
          have hr : r = L.drop (k + Z + 1) := by
            rw [List.drop_eq_getElem_cons hlen] at e
            injection e with e1 e2
            exact e2.symm
          subst hr
          by_cases hz0 : Z = 0
          · subst hz0
            rw [if_pos rfl]
            exact ih (d - 1) (by omega) f (k + 1) (by omega) (by omega)
          · rw [if_neg hz0]
            have h1 := ih (d - Z) (by omega) f (k + Z) (by omega) (by omega)
            rw [h1]
            have hl0 : lead0 (L.drop (k + Z)) = 0 := by rw [e, lead0, if_neg hx]
            rw [nhL_next (L.drop (k + Z)) (k + Z) (by omega) (by rw [hl0]; exact e) hx, hl0]
    · rw [if_neg hk]
      have e : L.drop k = [] := List.drop_eq_nil_of_le (by omega)
      rw [e, nhL, if_neg (by omega)]
theorem stretchS_no (L : List Int) (i : Nat) (hi : i ≤ L.length) (h : lead0 (L.drop i) < 16) : stretchS L i = ((nhL (L.drop i) 0 i).1, false) := by
  unfold stretchS
  rw [if_neg (by omega), scanS_nh L (L.length - i) (L.length - i) i (by omega) (Nat.le_refl _)]
/-- where the next hole begins there are as many zeros as it is long, or the data ends -/
theorem nhL_at (L : List Int) : ∀ (d k : Nat), k + d = L.length → ((nhL (L.drop k) 0 k).1 = L.length ∧ (nhL (L.drop k) 0 k).2 = L.length) ∨ (16 ≤ lead0 (L.drop (nhL (L.drop k) 0 k).1) ∧ (nhL (L.drop k) 0 k).2 = (nhL (L.drop k) 0 k).1 + lead0 (L.drop (nhL (L.drop k) 0 k).1)) := by
  intro d
  induction d using Nat.strongRecOn with
  | _ d ih =>
  intro k hd
  have hzl := lead0_le (L.drop k)
  rw [List.length_drop] at hzl
  by_cases h16 : 16 ≤ lead0 (L.drop k)
  · rw [nhL_hole _ _ h16]
    exact .inr ⟨h16, rfl⟩
  · rcases lead0_drop (L.drop k) with e | ⟨x, r, e, hx⟩
    · rw [nhL_end _ _ (by omega) e]
      have := congrArg List.length e
      simp at this
      exact .inl ⟨by show k + _ = _; omega, by show k + _ = _; omega⟩
    · rw [nhL_next _ _ (by omega) e hx]
      rw [List.drop_drop] at e
      have hlen : k + lead0 (L.drop k) < L.length := by
        have := congrArg List.length e
        simp at this; omega
      have hr : r = L.drop (k + lead0 (L.drop k) + 1) := by
        rw [List.drop_eq_getElem_cons hlen] at e
        injection e with e1 e2
        exact e2.symm
      rw [hr]
      exact ih (d - (lead0 (L.drop k) + 1)) (by omega) _ (by omega)
/-- a stretch's bytes in a row -/
def stretB (L : List Int) (x : Nat × Nat × Nat) : List Int := (x.1 : Int) :: (le x.2.2 4 ++ if x.1 = 1 then (L.drop x.2.1).take x.2.2 else [])
/-- the document's cut of data, from a place on -/
def cutS (L : List Int) : Nat → Nat → List Int
  | 0, _ => []
  | f + 1, i => if i < L.length then (if (stretchS L i).2 then 0 else 1) :: (le (((stretchS L i).1 : Int) - (i : Int)) 4 ++ ((if (stretchS L i).2 then [] else (L.drop i).take ((stretchS L i).1 - i)) ++ cutS L f (stretchS L i).1)) else []
theorem nhL_gt (L : List Int) (i : Nat) (hi : i < L.length) (h : lead0 (L.drop i) < 16) : i < (nhL (L.drop i) 0 i).1 := by
  have hzl := lead0_le (L.drop i)
  rw [List.length_drop] at hzl
  rcases lead0_drop (L.drop i) with e | ⟨x, r, e, hx⟩
  · rw [nhL_end _ _ h e]
    have := congrArg List.length e
    simp at this
    show i < i + _
    omega
  · rw [nhL_next _ _ h e hx]
    have := (nhL_bounds r 0 (i + lead0 (L.drop i) + 1) (by omega)).1
    omega
theorem stretS_len (L : List Int) (f i : Nat) (hi : L.length ≤ i) : stretS L f i = [] := by
  cases f with
  | zero => rfl
  | succ f => rw [stretS, if_neg (by omega)]
theorem cutS_hole (L : List Int) (f i : Nat) (hi : i < L.length) (h : 16 ≤ lead0 (L.drop i)) : cutS L (f + 1) i = 0 :: (le (lead0 (L.drop i) : Nat) 4 ++ cutS L f (i + lead0 (L.drop i))) := by
  have hs : stretchS L i = (i + lead0 (L.drop i), true) := by unfold stretchS; rw [if_pos h]
  rw [cutS, if_pos hi, hs]
  simp only [if_true, List.nil_append]
  congr 3
  omega
theorem cutS_full (L : List Int) (f i : Nat) (hi : i < L.length) (h : lead0 (L.drop i) < 16) : cutS L (f + 1) i = 1 :: (le (((nhL (L.drop i) 0 i).1 - i : Nat) : Int) 4 ++ ((L.drop i).take ((nhL (L.drop i) 0 i).1 - i) ++ cutS L f (nhL (L.drop i) 0 i).1)) := by
  have hs := stretchS_no L i (by omega) h
  have hgt := nhL_gt L i hi h
  rw [cutS, if_pos hi, hs]
  simp only [Bool.false_eq_true, if_false]
  congr 3
  omega
theorem stretS_hole (L : List Int) (g i : Nat) (hi : i < L.length) (h : 16 ≤ lead0 (L.drop i)) : stretS L (g + 1) i = (0, i, lead0 (L.drop i)) :: stretS L g (i + lead0 (L.drop i)) := by
  rw [stretS, if_pos hi, nhL_hole _ _ h]
  dsimp only
  rw [if_neg (Nat.lt_irrefl i), if_pos (by omega), List.nil_append, List.singleton_append]
  congr 3
  omega
theorem cutS_end (L : List Int) (f i : Nat) (hi : L.length ≤ i) : cutS L f i = [] := by
  cases f with
  | zero => rfl
  | succ f => rw [cutS, if_neg (by omega)]
theorem cutS_eq (L : List Int) : ∀ (d f g i : Nat), i + d = L.length → d ≤ f → d ≤ g → cutS L f i = (stretS L g i).flatMap (stretB L) := by
  intro d
  induction d using Nat.strongRecOn with
  | _ d ih =>
  intro f g i hd hf hg
  by_cases hi : i < L.length
  · obtain ⟨f, rfl⟩ : ∃ m, f = m + 1 := ⟨f - 1, by omega⟩
    obtain ⟨g, rfl⟩ : ∃ m, g = m + 1 := ⟨g - 1, by omega⟩
    by_cases h16 : 16 ≤ lead0 (L.drop i)
    · have hl := lead0_le (L.drop i)
      rw [List.length_drop] at hl
      rw [cutS_hole L f i hi h16, stretS_hole L g i hi h16, List.flatMap_cons, ih (d - lead0 (L.drop i)) (by omega) f g _ (by omega) (by omega) (by omega)]
      simp [stretB]
    · have hgt := nhL_gt L i hi (by omega)
      rw [cutS_full L f i hi (by omega), stretS, if_pos hi, if_pos hgt]
      have hat := nhL_at L d i hd
      obtain ⟨p, hp⟩ : ∃ p, (nhL (L.drop i) 0 i).1 = p := ⟨_, rfl⟩
      obtain ⟨q, hq⟩ : ∃ q, (nhL (L.drop i) 0 i).2 = q := ⟨_, rfl⟩
      rw [hp, hq] at hat
      rw [hp] at hgt
      rw [hp, hq]
      rcases hat with ⟨h1, h2⟩ | ⟨h1, h2⟩
      · subst h1
        rw [if_neg (by omega), stretS_len L g q (by omega), cutS_end L f _ (Nat.le_refl _)]
        simp [stretB]
      · have hl := lead0_le (L.drop p)
        rw [List.length_drop] at hl
        obtain ⟨f, rfl⟩ : ∃ m, f = m + 1 := ⟨f - 1, by omega⟩
        rw [if_pos (by omega), cutS_hole L f p (by omega) h1, List.singleton_append, List.singleton_append, List.flatMap_cons, List.flatMap_cons, ← h2, ih (d - (p - i) - lead0 (L.drop p)) (by omega) f g q (by omega) (by omega) (by omega)]
        have e : q - p = lead0 (L.drop p) := by omega
        rw [e]
        simp [stretB]
  · rw [stretS_len L g i (by omega), cutS_end L f i (by omega)]
    rfl
theorem cutS_len (L : List Int) : ∀ (d f i : Nat), i + d = L.length → d ≤ f → (cutS L f i).length ≤ 6 * d := by
  intro d
  induction d using Nat.strongRecOn with
  | _ d ih =>
  intro f i hd hf
  by_cases hi : i < L.length
  · obtain ⟨f, rfl⟩ : ∃ m, f = m + 1 := ⟨f - 1, by omega⟩
    have hl := lead0_le (L.drop i)
    rw [List.length_drop] at hl
    by_cases h16 : 16 ≤ lead0 (L.drop i)
    · have := ih (d - lead0 (L.drop i)) (by omega) f (i + lead0 (L.drop i)) (by omega) (by omega)
      rw [cutS_hole L f i hi h16]
      simp only [List.length_cons, List.length_append, le_length]
      omega
    · have hgt := nhL_gt L i hi (by omega)
      have hb := nhL_bounds (L.drop i) 0 i (by omega)
      rw [List.length_drop] at hb
      have := ih (L.length - (nhL (L.drop i) 0 i).1) (by omega) f (nhL (L.drop i) 0 i).1 (by omega) (by omega)
      rw [cutS_full L f i hi (by omega)]
      simp only [List.length_cons, List.length_append, le_length, List.length_take, List.length_drop]
      omega
  · rw [cutS_end L f i (by omega)]; simp
theorem stretX_len (L : List Int) : ((stretX L).flatMap (stretB L)).length ≤ 6 * L.length := by
  unfold stretX
  rw [← cutS_eq L L.length L.length L.length 0 (by omega) (Nat.le_refl _) (Nat.le_refl _)]
  exact cutS_len L L.length L.length 0 (by omega) (Nat.le_refl _)
theorem stretS_mem (L : List Int) : ∀ (k i : Nat), i ≤ L.length → ∀ x ∈ stretS L k i, (x.1 = 0 ∨ x.1 = 1) ∧ x.2.1 + x.2.2 ≤ L.length ∧ 0 < x.2.2 := by
  intro k
  induction k with
  | zero => intro i _ x hx; simp [stretS] at hx
  | succ k ih =>
    intro i hi x hx
    rw [stretS] at hx
    split at hx
    · have hb := nhL_bounds (L.drop i) 0 i (by omega)
      rw [List.length_drop] at hb
      rcases List.mem_append.mp hx with h | h
      · split at h
        · obtain rfl := List.mem_singleton.mp h
          exact ⟨.inr rfl, by dsimp only; omega, by dsimp only; omega⟩
        · cases h
      · rcases List.mem_append.mp h with h | h
        · split at h
          · obtain rfl := List.mem_singleton.mp h
            exact ⟨.inl rfl, by dsimp only; omega, by dsimp only; omega⟩
          · cases h
        · exact ih _ (by omega) x h
    · cases hx
end Go.Proofs.YtlnaeppbhjmocaaDoor
namespace Go.Proofs.YtlnaeppbhjmocaaDoor
open Go.RowKit Go.Proofs
section
variable {α : Type} [DecidableEq α] (lt : α → α → Bool)
/-- how many names two paths share -/
def sharedX : List α → List α → Nat
  | x :: a, y :: b => if x = y then sharedX a b + 1 else 0
  | _, _ => 0
/-- does b come behind a in the order of trees -/
def behindX : List α → List α → Bool
  | _, [] => false
  | [], _ :: _ => true
  | x :: a, y :: b => if x = y then behindX a b else lt x y
/-- the program's test of a leaf behind another -/
def stepX (ahead : List α) (dir : Bool) (n : List α) : Bool :=
  behindX lt ahead n && decide (n.length - 1 ≤ sharedX ahead n) && (decide (n.length - 1 ≠ ahead.length) || dir)
theorem shared_le (a : List α) : ∀ b : List α, sharedX a b ≤ a.length ∧ sharedX a b ≤ b.length := by
  induction a with
  | nil => intro b; simp [sharedX]
  | cons x a ih =>
    intro b
    cases b with
    | nil => simp [sharedX]
    | cons y b =>
      simp only [sharedX]
      split
      · have := ih b; simp; omega
      · simp
theorem shared_take (a : List α) : ∀ (b : List α) (k : Nat), k ≤ sharedX a b → a.take k = b.take k := by
  induction a with
  | nil => intro b k h; simp [sharedX] at h; subst h; simp
  | cons x a ih =>
    intro b k h
    cases b with
    | nil => simp [sharedX] at h; subst h; simp
    | cons y b =>
      simp only [sharedX] at h
      split at h
      · rename_i hxy
        subst hxy
        cases k with
        | zero => simp
        | succ k => simp [ih b k (by omega)]
      · obtain rfl : k = 0 := by omega
        simp
variable (irr : ∀ a, lt a a = false) (tr : ∀ a b c, lt a b = true → lt b c = true → lt a c = true)
theorem behind_ne {a n : List α} (h : behindX lt a n = true) : n ≠ [] := fun e => by subst e; cases a <;> simp [behindX] at h
end
end Go.Proofs.YtlnaeppbhjmocaaDoor
set_option linter.unusedSimpArgs false
set_option linter.unusedVariables false
namespace Go.Proofs.YtlnaeppbhjmocaaDoor
open Go.RowKit Go.Proofs

def cutsL : List UInt8 → List UInt8 → List (List UInt8)
  | w, [] => [w]
  | w, c :: r => if c = 47 then w :: cutsL [] r else cutsL (w ++ [c]) r
theorem parts_cuts (s : List UInt8) : ∀ w, partsL w s = (cutsL w s).filter (fun x => decide (okW x)) := by
  induction s with
  | nil => intro w; by_cases h : okW w <;> simp [partsL, cutsL, h]
  | cons c r ih =>
    intro w
    by_cases hc : c = 47
    · subst hc
      by_cases h : okW w <;> simp [partsL, cutsL, h, ih]
    · simp [partsL, cutsL, hc, ih]
theorem cuts_no (s : List UInt8) (h : (47 : UInt8) ∉ s) : ∀ w, cutsL w s = [w ++ s] := by
  induction s with
  | nil => intro w; simp [cutsL]
  | cons c r ih =>
    intro w
    rw [cutsL, if_neg (fun e => h (by simp [e])), ih (fun e => h (by simp [e]))]
    simp
theorem cuts_at (a r : List UInt8) (h : (47 : UInt8) ∉ a) : ∀ w, cutsL w (a ++ 47 :: r) = (w ++ a) :: cutsL [] r := by
  induction a with
  | nil => intro w; simp [cutsL]
  | cons c t ih =>
    intro w
    rw [List.cons_append, cutsL, if_neg (fun e => h (by simp [e])), ih (fun e => h (by simp [e]))]
    simp
theorem ix_no {s : List UInt8} (h : Lib.indexByte s 47 = -1) : (47 : UInt8) ∉ s := fun e => by
  obtain ⟨k, hk, he⟩ := List.mem_iff_getElem.mp e
  exact Lib.indexByte_none h k (by rw [List.getElem?_eq_getElem hk, he])
theorem ix_at {s : List UInt8} {o : Nat} (h : Lib.indexByte s 47 = o) : o < s.length ∧ s = s.take o ++ 47 :: s.drop (o + 1) ∧ (47 : UInt8) ∉ s.take o := by
  obtain ⟨h1, h2⟩ := Lib.indexByte_some h
  have hlt : o < s.length := (List.getElem?_eq_some_iff.mp h1).1
  have he : s[o] = 47 := (List.getElem?_eq_some_iff.mp h1).2
  refine ⟨hlt, ?_, fun e => ?_⟩
  · conv => lhs; rw [← List.take_append_drop o s]
    rw [List.drop_eq_getElem_cons hlt, he]
  · obtain ⟨k, hk, he'⟩ := List.mem_iff_getElem.mp e
    have hk' : k < o := by rw [List.length_take] at hk; omega
    refine h2 k hk' ?_
    rw [List.getElem_take] at he'
    rw [List.getElem?_eq_getElem (by omega), he']
theorem ix_or (s : List UInt8) : Lib.indexByte s 47 = -1 ∨ ∃ o : Nat, Lib.indexByte s 47 = o := by
  have := Lib.indexByte_ge s 47
  by_cases h : Lib.indexByte s 47 = -1
  · exact .inl h
  · exact .inr ⟨(Lib.indexByte s 47).toNat, by omega⟩
theorem cuts_ix_no {s : List UInt8} (h : Lib.indexByte s 47 = -1) : cutsL [] s = [s] := by
  rw [cuts_no s (ix_no h)]; rfl
theorem cuts_ix {s : List UInt8} {o : Nat} (h : Lib.indexByte s 47 = o) : cutsL [] s = s.take o :: cutsL [] (s.drop (o + 1)) := by
  obtain ⟨_, h2, h3⟩ := ix_at h
  conv => lhs; rw [h2]
  rw [cuts_at _ _ h3]
  simp
theorem cuts_len (s : List UInt8) : ∀ w, (cutsL w s).length ≤ s.length + 1 := by
  induction s with
  | nil => intro w; simp [cutsL]
  | cons c r ih =>
    intro w
    rw [cutsL]
    split
    · have := ih []; simp; omega
    · have := ih (w ++ [c]); simp; omega

/-! ### Names of a text, a path, a leaf's path -/
def namesQ (s : List UInt8) : List ByteArray × Int :=
  if (0 : UInt8) ∈ s then ([], 160) else if 1023 < s.length then ([], 161) else
  if 64 < (partsL [] s).length ∨ ((partsL [] s).map toB).any (fun x => decide (63 < x.size)) = true then ([], 161) else ((partsL [] s).map toB, 0)
def splitQ (s : List UInt8) : List ByteArray × Int := if s.head? = some 47 then namesQ s else ([], 160)
def isUp (x : ByteArray) : Bool := x.data.toList == [46, 46]
def cleanQ (s : List UInt8) : List UInt8 × Int := if (splitQ s).2 = 0 then (pathL ((splitQ s).1.dropWhile isUp), 0) else ([], (splitQ s).2)
/-- the names of a leaf's path, if that may be -/
def namesP (s : List UInt8) : Option (List ByteArray) := if (cleanQ s).2 = 0 ∧ (cleanQ s).1 = s ∧ (splitQ s).1.any isUp = false then some (splitQ s).1 else none
theorem namesQ_err {s : List UInt8} : (namesQ s).2 = 0 ∨ (namesQ s).1 = [] ∧ ((namesQ s).2 = 160 ∨ (namesQ s).2 = 161) := by
  unfold namesQ
  split
  · exact .inr ⟨rfl, .inl rfl⟩
  · split
    · exact .inr ⟨rfl, .inr rfl⟩
    · split
      · exact .inr ⟨rfl, .inr rfl⟩
      · exact .inl rfl
theorem splitQ_err {s : List UInt8} : (splitQ s).2 = 0 ∨ (splitQ s).1 = [] ∧ ((splitQ s).2 = 160 ∨ (splitQ s).2 = 161) := by
  unfold splitQ
  split
  · exact namesQ_err
  · exact .inr ⟨rfl, .inl rfl⟩
theorem splitQ_head {s : List UInt8} (h : (splitQ s).2 = 0) : s.head? = some 47 := by
  unfold splitQ at h
  split at h
  · assumption
  · cases h
theorem parts_total (s : List UInt8) : ∀ w, ((partsL w s).map fun x => x.length + 1).sum ≤ w.length + s.length + 1 := by
  induction s with
  | nil => intro w; rw [partsL]; split <;> simp
  | cons c r ih =>
    intro w
    rw [partsL]
    split
    · split
      · have := ih []; simp at this ⊢; omega
      · have := ih []; simp at this ⊢; omega
    · have := ih (w ++ [c]); simp at this ⊢; omega
theorem splitQ_good {s : List UInt8} (h : (splitQ s).2 = 0) : s.length ≤ 1023 ∧ (0 : UInt8) ∉ s ∧ (splitQ s).1 = (partsL [] s).map toB ∧ (splitQ s).1.length ≤ 64 ∧ (∀ x ∈ (splitQ s).1, x.size ≤ 63) ∧ ((splitQ s).1.map fun x => x.size + 1).sum ≤ 1024 := by
  have hh := splitQ_head h
  unfold splitQ at h ⊢
  rw [if_pos hh] at h ⊢
  unfold namesQ at h ⊢
  split at h
  · cases h
  · rename_i h0
    split at h
    · cases h
    · rename_i h1
      split at h
      · cases h
      · rename_i h2
        rw [if_neg h0, if_neg h1, if_neg h2]
        have h3 : ¬ 64 < (partsL [] s).length := fun e => h2 (.inl e)
        refine ⟨by omega, h0, rfl, by rw [List.length_map]; omega, fun x hx => ?_, ?_⟩
        · rcases Nat.lt_or_ge 63 x.size with e | e
          · exact absurd (.inr (List.any_eq_true.2 ⟨x, hx, decide_eq_true e⟩)) h2
          · exact e
        · have := parts_total s []
          rw [List.map_map]
          have e : ((fun x : ByteArray => x.size + 1) ∘ toB) = fun x : List UInt8 => x.length + 1 := by funext x; rfl
          rw [e]
          simp at this ⊢
          omega
theorem pathL_len (l : List ByteArray) : (l.flatMap fun n => slash :: n.data.toList).length = (l.map fun x => x.size + 1).sum := by
  induction l with
  | nil => rfl
  | cons x r ih =>
    rw [List.flatMap_cons, List.length_append, ih, List.map_cons, List.sum_cons]
    show x.data.toList.length + 1 + _ = x.size + 1 + _
    rw [show x.data.toList.length = x.size from rfl]
theorem sum_drop (l : List ByteArray) (f : ByteArray → Bool) : ((l.dropWhile f).map fun x => x.size + 1).sum ≤ (l.map fun x => x.size + 1).sum := by
  induction l with
  | nil => simp
  | cons x r ih =>
    rw [List.dropWhile_cons]
    split
    · simp; omega
    · exact Nat.le_refl _
end Go.Proofs.YtlnaeppbhjmocaaDoor
set_option linter.unusedSimpArgs false
set_option linter.unusedVariables false
namespace Go.Proofs.YtlnaeppbhjmocaaDoor
open Go.RowKit Go.Proofs

def goodB (ty mo : Int) (dl : Nat) (tg : ByteArray) : Bool :=
  !(decide (mo < 0) || decide (4095 < mo) || (!decide (ty = 1) && decide (0 < dl)) || decide (16777216 < dl)) &&
    (if ty = 1 ∨ ty = 2 then decide (tg.data.toList = []) else if ty = 3 then targetB tg else false)

set_option maxRecDepth 100000 in
set_option maxHeartbeats 1600000 in
theorem good_any (pa : ByteArray) (ty mo st : Int) (A : Option Addr) (n c : Nat) (tg : ByteArray) (w : World) (hw : Ok w) :
    Calls Tryd.prog 47 #[.agg #[.string pa, .int .i64 ty, .int .i64 mo, .int .u64 st, .slice A n c, .string tg]] w fun e w' => e = .returned (.bool (goodB ty mo n tg)) ∧ Fr w w' := by
  obtain ⟨R, hR⟩ : ∃ R, goodB ty mo n tg = R := ⟨_, rfl⟩
  rw [hR]
  have HR := Lib.hid hR
  clear hR
  obtain ⟨w1, g, hg, hw1, f1, hz1, H1⟩ := boxedN hw #[.string pa, .int .i64 ty, .int .i64 mo, .int .u64 st, .slice A n c, .string tg] 45
  obtain ⟨c0, c1, c2, c3, c4, c5⟩ := blk6 H1
  have HF := Lib.hid f1
  have CT := goodTarget_any tg
  clear f1
  have hno : ∀ (a : Act) , True := fun _ => trivial
  by_cases hm0 : mo < 0
  · go_enter Tryd.func47, Tryd.ntmps47
    go_wp2_with fail
    go_ret
    refine ⟨?_, HF.out⟩
    rw [← HR.out]
    simp [goodB, hm0]
  · by_cases hm1 : 4095 < mo
    · go_enter Tryd.func47, Tryd.ntmps47
      go_wp2_with fail
      go_ret
      refine ⟨?_, HF.out⟩
      rw [← HR.out]
      simp [goodB, hm1]
    · have e0 : decide (mo < 0) = false := decide_eq_false hm0
      have e1 : decide (4095 < mo) = false := decide_eq_false hm1
      obtain ⟨bt, hbt⟩ : ∃ b, (tg.toList == ([] : List UInt8)) = b := ⟨_, rfl⟩
      have hbt2 : decide (tg.data.toList = []) = bt := by
        rw [← hbt, toL]
        cases tg.data.toList <;> simp
      have HB := Lib.hid hbt2
      clear hbt2
      by_cases h1 : ty = 1
      · subst h1
        by_cases hl : 16777216 < n
        · have d3 : (16777216 : Int) < (n : Int) := by omega
          go_enter Tryd.func47, Tryd.ntmps47
          go_wp2_with fail
          all_goals (go_ret; refine ⟨?_, HF.out⟩; rw [← HR.out]; simp [goodB, hl])
        · have d3 : (n : Int) ≤ 16777216 := by omega
          go_enter Tryd.func47, Tryd.ntmps47
          go_wp2_with fail
          all_goals (go_ret; refine ⟨?_, HF.out⟩; rw [← HR.out]; unfold goodB; rw [HB.out]; simp [hl, e0, e1])
      · by_cases hn : 0 < n
        · have d3 : (0 : Int) < (n : Int) := by omega
          go_enter Tryd.func47, Tryd.ntmps47
          go_wp2_with fail
          all_goals (go_ret; refine ⟨?_, HF.out⟩; rw [← HR.out]; simp [goodB, hn, h1])
        · obtain rfl : n = 0 := by omega
          by_cases h2 : ty = 2
          · subst h2
            go_enter Tryd.func47, Tryd.ntmps47
            go_wp2_with fail
            all_goals (go_ret; refine ⟨?_, HF.out⟩; rw [← HR.out]; unfold goodB; rw [HB.out]; simp [e0, e1])
          · by_cases h3 : ty = 3
            · subst h3
              go_enter Tryd.func47, Tryd.ntmps47
              go_wp2_with (first
                | (go_at_call 64; refine (CT _).mono ?_; rintro e wq ⟨rfl, he⟩; replace he := he.symm; subst he))
              all_goals (go_ret; refine ⟨?_, HF.out⟩; rw [← HR.out]; simp [goodB, e0, e1])
            · go_enter Tryd.func47, Tryd.ntmps47
              go_wp2_with fail
              all_goals (go_ret; refine ⟨?_, HF.out⟩; rw [← HR.out]; simp [goodB, e0, e1, h1, h2, h3])
end Go.Proofs.YtlnaeppbhjmocaaDoor
set_option linter.unusedSimpArgs false
set_option linter.unusedVariables false
namespace Go.Proofs.YtlnaeppbhjmocaaDoor
open Go.RowKit Go.Proofs Go.Proofs.YtlnaeppbhjmocaaDoorW.PrintWords Go.Proofs.YtlnaeppbhjmocaaDoorW.PrintMore

/-- leaves in a row; each one's data lie somewhere -/
def LAt (w : World) (A : Option Addr) (tv : List (Lf × Value)) : Prop := Row w A 6 (tv.map lcell) ∧ ∀ p ∈ tv, ∃ a d, p.2 = .slice a p.1.data.length d ∧ BytesAt w a p.1.data ∧ p.1.data.length ≤ d ∧ (a = none → d = 0)
theorem LAt.fr {w w' : World} {A : Option Addr} {tv : List (Lf × Value)} (h : LAt w A tv) (q : Fr w w') : LAt w' A tv :=
  ⟨h.1.fr q, fun p hp => by obtain ⟨a, d, e, hb, hd, hz⟩ := h.2 p hp; exact ⟨a, d, e, hb.fr q, hd, hz⟩⟩
theorem LAt.toAlike {w : World} {A : Option Addr} {tv : List (Lf × Value)} (h : LAt w A tv) (hn : tv.length ≤ 1099511627776) (hd : ∀ p ∈ tv, p.1.data.length ≤ 1099511627776) : Kd.C Palike.k45 w A (tv.map toS).length (tv.map toS) := by
  refine ⟨rfl, by rw [List.length_map]; omega, fun h0 => ?_⟩
  rw [List.length_map] at h0
  rcases h.1 with h1 | ⟨g, o, hA, hg, h1⟩
  · have : tv = [] := by simpa using h1
    rw [this] at h0; simp at h0
  · refine ⟨_, hA, fun j p hj => ?_⟩
    rw [List.getElem?_map, Option.map_eq_some_iff] at hj
    obtain ⟨q, hq, rfl⟩ := hj
    have hm := List.mem_of_getElem? hq
    obtain ⟨da, dc, hdv, hb, hdl, _⟩ := h.2 q hm
    refine ⟨lcell q, rfl, ?_, fun i u hu => ?_⟩
    · have := Palike.k45_mk w (toS q) (A4 := da) (c4 := dc) hdl (hb.toC (hd q hm))
      unfold lcell
      rw [hdv]
      exact this
    · have hi : i < 6 := by
        have := (List.getElem?_eq_some_iff.1 hu).1
        have hl6 : (lcell q).length = 6 := rfl
        omega
      have := h1 j (lcell q) (by rw [List.getElem?_map, hq]; rfl) i u hi hu
      have hsz : Palike.k45.sz = 6 := rfl
      rw [hsz, Lib.add_plain]
      rw [show o + (j * 6 + i) = o + j * 6 + i by omega]
      exact this

/-- the model's order of texts is that of their bytes -/
theorem bl_eq : ∀ (x y : List UInt8), Op.bytesLess x y = decide (x < y)
  | [], [] => by simp [Op.bytesLess]
  | [], _ :: _ => by simp [Op.bytesLess]
  | _ :: _, [] => by simp [Op.bytesLess]
  | a :: x, b :: y => by
    rw [Op.bytesLess, bl_eq x y, Bool.eq_iff_iff]
    simp [List.cons_lt_cons_iff]
/-! ### The bytes of a tree -/
/-- a file's data, cut -/
def cutB (L : List Int) : List Int := le (L.length : Int) 4 ++ (stretX L).flatMap (stretB L)
/-- a leaf's piece; ns: its names -/
def pieceH (l : Lf) (ns : List ByteArray) : List Int := [((ns.length - 1 : Nat) : Int), l.ty] ++ le l.mode 2 ++ le l.stamp 8 ++ [((ns.getLastD ⟨#[]⟩).size : Int)] ++ bytesI (ns.getLastD ⟨#[]⟩)
def pieceT (l : Lf) : List Int := if l.ty = 1 then cutB l.data else if l.ty = 3 then [(l.tgt.size : Int)] ++ bytesI l.tgt else []
def pieceB (l : Lf) (ns : List ByteArray) : List Int := pieceH l ns ++ pieceT l
def headX (l : Lf) : List Int := [80, 82, 67, 76, 1] ++ le l.mode 2 ++ le l.stamp 8
/-- may a leaf be, its names -/
def okL (l : Lf) : Bool := goodB l.ty l.mode l.data.length l.tgt
def nmL (l : Lf) : List ByteArray := (namesP l.path.data.toList).getD []
def ltB (a b : ByteArray) : Bool := Op.bytesLess a.toList b.toList
/-- may these leaves stand behind a leaf of these names (a directory or not) -/
def restB : List ByteArray → Bool → List Lf → Bool
  | _, _, [] => true
  | ahead, dir, l :: r => (namesP l.path.data.toList).isSome && okL l && stepX ltB ahead dir (nmL l) && restB (nmL l) (decide (l.ty = 2)) r
/-- Pack: the bytes, or the error -/
def packX (t : List Lf) : List Int × Int :=
  match t with
  | [] => ([], 190)
  | l :: r =>
    if l.path.data.toList = [47] ∧ l.ty = 2 then
      if okL l = true ∧ restB [] true r = true then
        let m := headX l ++ r.flatMap (fun x => pieceB x (nmL x)) ++ [255]
        (m ++ le (crcI m) 4, 0)
      else ([], 191)
    else ([], 190)
theorem okL_ty {l : Lf} (h : okL l = true) : 1 ≤ l.ty ∧ l.ty ≤ 3 ∧ 0 ≤ l.mode ∧ l.mode ≤ 4095 ∧ l.data.length ≤ 16777216 ∧ (l.ty ≠ 1 → l.data = []) ∧ (l.ty ≠ 3 → l.tgt = ⟨#[]⟩) ∧ (l.ty = 3 → targetB l.tgt = true) := by
  unfold okL goodB at h
  rw [Bool.and_eq_true] at h
  obtain ⟨h1, h2⟩ := h
  simp only [Bool.not_eq_true', Bool.or_eq_false_iff, decide_eq_false_iff_not, Bool.and_eq_false_iff, Bool.not_eq_false', decide_eq_true_eq] at h1
  obtain ⟨⟨⟨a1, a2⟩, a3⟩, a4⟩ := h1
  have htg : ∀ t : ByteArray, t.data.toList = [] → t = ⟨#[]⟩ := fun t e => bs_ext e
  by_cases t1 : l.ty = 1
  · rw [if_pos (.inl t1)] at h2
    exact ⟨by omega, by omega, by omega, by omega, by omega, fun e => absurd t1 e, fun _ => htg _ (by simpa using h2), fun e => by omega⟩
  · have hd : l.data = [] := by
      rcases a3 with e | e
      · exact absurd e t1
      · exact List.eq_nil_of_length_eq_zero (by omega)
    by_cases t2 : l.ty = 2
    · rw [if_pos (.inr t2)] at h2
      exact ⟨by omega, by omega, by omega, by omega, by omega, fun _ => hd, fun _ => htg _ (by simpa using h2), fun e => by omega⟩
    · rw [if_neg (by omega)] at h2
      by_cases t3 : l.ty = 3
      · rw [if_pos t3] at h2
        exact ⟨by omega, by omega, by omega, by omega, by omega, fun _ => hd, fun e => absurd t3 e, fun _ => h2⟩
      · rw [if_neg t3] at h2; cases h2
/-! ### Names -/
theorem partsL_good (s : List UInt8) : ∀ w : List UInt8, (47 : UInt8) ∉ w → ∀ x ∈ partsL w s, okW x ∧ (47 : UInt8) ∉ x ∧ ((0 : UInt8) ∈ x → (0 : UInt8) ∈ w ++ s) := by
  induction s with
  | nil =>
    intro w hw x hx
    rw [partsL] at hx
    split at hx
    · rename_i h
      obtain rfl : x = w := by simpa using hx
      exact ⟨h, hw, fun h0 => by simpa using h0⟩
    · cases hx
  | cons c r ih =>
    intro w hw x hx
    rw [partsL] at hx
    split at hx
    · split at hx
      · rename_i h
        rcases List.mem_cons.mp hx with e | e
        · subst e; exact ⟨h, hw, fun h0 => by simp [h0]⟩
        · obtain ⟨h1, h2, h3⟩ := ih [] (by simp) x e
          exact ⟨h1, h2, fun h0 => by have := h3 h0; simp at this ⊢; exact .inr (.inr this)⟩
      · obtain ⟨h1, h2, h3⟩ := ih [] (by simp) x hx
        exact ⟨h1, h2, fun h0 => by have := h3 h0; simp at this ⊢; exact .inr (.inr this)⟩
    · rename_i hc
      obtain ⟨h1, h2, h3⟩ := ih (w ++ [c]) (by simp [hw]; exact fun e => hc e.symm) x hx
      exact ⟨h1, h2, fun h0 => by have := h3 h0; simp at this ⊢; exact this⟩
/-- a leaf's names, if its path may be -/
theorem namesP_good {s : List UInt8} {ns : List ByteArray} (h : namesP s = some ns) : s = pathL ns ∧ (∀ n ∈ ns, nameB n = true) ∧ ns.length ≤ 64 ∧ s.length ≤ 1023 := by
  unfold namesP at h
  split at h
  · rename_i hc
    injection h with h
    have h4 : (splitQ s).2 = 0 := by
      have := hc.1
      unfold cleanQ at this
      split at this
      · assumption
      · rename_i h5; exact absurd this h5
    obtain ⟨g1, g2, g3, g4, g5, g6⟩ := splitQ_good h4
    have hd : (splitQ s).1.dropWhile isUp = (splitQ s).1 := by
      have h5 := hc.2.2
      revert h5
      generalize (splitQ s).1 = l
      intro h5
      cases l with
      | nil => rfl
      | cons x r =>
        rw [List.any_cons, Bool.or_eq_false_iff] at h5
        rw [List.dropWhile_cons, h5.1]
        rfl
    have hs : s = pathL ns := by
      have h6 := hc.2.1
      unfold cleanQ at h6
      rw [if_pos h4, hd, h] at h6
      exact h6.symm
    refine ⟨hs, fun n hn => ?_, by rw [← h]; exact g4, g1⟩
    rw [← h] at hn
    have hup : isUp n = false := by
      have h5 := hc.2.2
      rw [List.any_eq_false] at h5
      simpa using h5 n hn
    have hsz := g5 n hn
    rw [g3] at hn
    obtain ⟨x, hx, rfl⟩ := List.mem_map.mp hn
    obtain ⟨k1, k2, k3⟩ := partsL_good s [] (by simp) x hx
    have hx0 : (0 : UInt8) ∉ x := fun e => g2 (by simpa using k3 e)
    have hu : x ≠ [46, 46] := by
      intro e
      rw [e] at hup
      simp [isUp, toB] at hup
    have hsz2 : (toB x).size = x.length := rfl
    have hd2 : (toB x).data.toList = x := rfl
    unfold nameB
    rw [hd2]
    have h1 : decide (1 ≤ (toB x).size ∧ (toB x).size ≤ 63) = true := by
      apply decide_eq_true
      refine ⟨?_, hsz⟩
      rw [hsz2]
      exact List.length_pos_iff.mpr k1.1
    have h2 : (x != [46]) = true := by simpa using k1.2
    have h3 : (x != [46, 46]) = true := by simpa using hu
    have h7 : noneOf x = true := by
      unfold noneOf
      rw [List.all_eq_true]
      intro c hc'
      have a1 : c ≠ 0 := fun e => hx0 (e ▸ hc')
      have a2 : c ≠ 47 := fun e => k2 (e ▸ hc')
      simp [a1, a2]
    rw [h1, h2, h3, h7]
    rfl
  · cases h
end Go.Proofs.YtlnaeppbhjmocaaDoor
set_option linter.unusedSimpArgs false
set_option linter.unusedVariables false
namespace Go.Proofs.YtlnaeppbhjmocaaDoor
open Go.RowKit Go.Proofs

/-- the invariant abides new blocks, draws, and what is stored into the blocks M -/
def Abide {β : Type} (M : Nat → Prop) (J : β → World → Prop) : Prop :=
  ∀ s A B row, J s A → A.grownBy B row → (∀ r, row = some r → M r) → J s B

/-- the iterator gives xs, one by one; Kp: what it asks of a round to keep -/
def Gives {α : Type} (F : Fence) (n : Nat) (P : Program) (g : Nat) (lb : Array Value) (encs : α → Array Value) (Kp : World → World → Prop) (M : Nat → Prop) (xs : List α) (w : World) : Prop :=
  ∀ (l : Nat) (J : List α → World → Prop) (W : World), w.grownBy W none → Abide M J →
    (∀ pre x post W1, xs = pre ++ x :: post → J pre W1 → YieldAt F (n - 1) P l (encs x) W1 fun e W' => e = .returned (.bool true) ∧ J (pre ++ [x]) W' ∧ Kp W1 W') →
    J [] W → CallsIn F n P g (#[.func (.yield l) #[] #[]] ++ lb) W fun e W' => (∃ v, e = .returned v) ∧ J xs W'

/-- how a round ends: normally -/
def roundOn {α : Type} (B : Nat) (Kp : World → World → Prop) (I : List α → World → Prop) (xs : List α) (W : World) : Exit → Act → World → Prop
  | .normal, _, W' => KeepsFrom B W W' ∧ Kp W W' ∧ I xs W'
  | _, _, _ => False

set_option maxHeartbeats 800000 in
theorem wp_range {F : Fence} {n : Nat} {P : Program} {α : Type} {g : Operand} {ps : Array Tmp} {assign body : Code} {Q : Exit → Act → World → Prop} {a : Act} {w : World}
    (hro : F.round = none) (h1 : 1 ≤ n) {gf : Nat} {lb : Array Value} (hg : a.eval g = .func (.func gf) #[] lb) (hFg : F.fn gf) (eg : ∀ args w, (callFunc gf args).run P w = .ok (.enter gf args) w)
    {encs : α → Array Value} {Kp : World → World → Prop} {M : Nat → Prop} {xs : List α} (hseq : Gives F (n - 1) P gf lb encs Kp M xs w)
    (hKt : ∀ {A B C : World}, Kp A B → Kp B C → Kp A C) (hKb : ∀ (W : World) (l : Nat) (o' : Obj), w.heap.size ≤ l → Kp W (W.putObj l o')) (hM : ∀ r, M r → r < w.heap.size) (hps : ∀ x, (encs x).size = ps.size)
    (I : List α → World → Prop) (hI : ∀ s A B row, I s A → A.grownBy B row → (∀ r, row = some r → M r ∨ (w.heap.size ≤ r ∧ ∃ o : Obj, A.heap[r]? = some o ∧ o.isCells = false)) → I s B) (h0 : I [] w)
    (Ax : α → Act → World → Prop) (hAx : ∀ x a' A B r, Ax x a' A → A.grownBy B (some r) → w.heap.size ≤ r → (∃ o : Obj, A.heap[r]? = some o ∧ o.isCells = false) → Ax x a' B)
    (hassign : ∀ (l : Nat) (pre : List α) (x : α) (W : World) (K : Act → World → Prop), I pre W → (∀ a' W', KeepsFrom w.heap.size W W' → Kp W W' → I pre W' → Ax x a' W' → K a' W') →
      assign.wpIn (F.inRound l) (n - 1 - 1) P (Exit.then K (fun _ _ _ => False)) { tmps := (ps.zip (encs x)).foldl (fun t (p, v) => t.setIfInBounds p v) a.tmps, defers := [] } W)
    (hbody : ∀ (l : Nat) (pre : List α) (x : α) (post : List α) (a' : Act) (W : World), xs = pre ++ x :: post → I pre W → Ax x a' W → body.wpIn (F.inRound l) (n - 1 - 1) P (roundOn w.heap.size Kp I (pre ++ [x]) W) a' W)
    (hdone : ∀ (D : Nat) (W : World), w.heap.size ≤ D → I xs W → W.heap[D]? = some (.deferred (some [])) → Q .normal { a with defers := { target := .collected D, args := #[] } :: a.defers } W) :
    (Code.rangeFunc g ps assign body).wpIn F n P Q a w := by
  have hIp : ∀ {s : List α} {W : World} {k : Nat} {o : Obj} (o' : Obj), I s W → w.heap.size ≤ k → W.heap[k]? = some o → o.isCells = false → I s (W.putObj k o') :=
    fun {s W k o} o' hs hk ho hc => hI s W _ (some k) hs (grownBy_putObj' W k o') (fun r e => by cases e; exact .inr ⟨hk, o, ho, hc⟩)
  have hIa : ∀ {s : List α} {W : World} (o : Obj), I s W → I s (W.alloc o) := fun {s W} o hs => hI s W _ none hs (World.grownBy_alloc W o none) (fun r e => by cases e)
  refine wpIn_rangeFunc ?_
  intro fn hfn
  rw [hro]
  obtain ⟨rec, hrec⟩ : ∃ rec : LoopState → Option Code → Loop, rec = fun st pe => { state := st, pending := pe, fn, tmps := a.tmps, params := ps, assign, body, defers := w.heap.size } := ⟨_, rfl⟩
  obtain ⟨W1, hW1⟩ : ∃ W1, (w.alloc (.deferred (some []))).alloc (.loop (rec .ready none)) = W1 := ⟨_, rfl⟩
  have hL1 : W1.heap[w.heap.size + 1]? = some (.loop (rec .ready none)) := by
    rw [← hW1]; have := World.alloc_heap_new (w.alloc (.deferred (some []))) (.loop (rec .ready none)); rwa [World.size_alloc] at this
  have hK1 : W1.heap[w.heap.size]? = some (.deferred (some [])) := by
    rw [← hW1]; exact (Below.heap_alloc _ _ _ (by simp)).trans (World.alloc_heap_new w _)
  have hI1 : I [] W1 := by rw [← hW1]; exact hIa _ (hIa _ h0)
  have hb1 : w.grownBy W1 none := by
    rw [← hW1]; exact grown_trans (World.grownBy_alloc w _ none) (World.grownBy_alloc _ _ none)
  refine ⟨w.heap.size + 1, [{ target := .collected w.heap.size, args := #[] }], W1, { target := .fn (.func gf) lb, args := #[.func (.yield (w.heap.size + 1)) #[] #[]] }, W1, gf,
    #[.func (.yield (w.heap.size + 1)) #[] #[]] ++ lb, W1, ?_, ?_, ?_, ?_, fun _ => h1, ?_⟩
  · rw [← hW1, hrec]; exact run_enterLoop_outer _ _ _ _ _
  · simp only [resolve, hg]
    simp [go_sem]
  · intro f' hf'; simp [Target.leads] at hf'; subst hf'; exact hFg
  · simp [invoke, go_sem, eg]
  · have far : ∀ {A B : World} {row : Option Nat} {k : Nat} {o : Obj}, A.grownBy B row → (∀ r, row = some r → M r) → w.heap.size ≤ k → A.heap[k]? = some o → B.heap[k]? = some o := fun {A B row k o} hg' hr hk ho =>
      (hg'.block k (Array.getElem?_eq_some_iff.1 ho).1 (fun e => by have := hM k (hr k e.symm); omega)).trans ho
    refine (hseq (w.heap.size + 1)
      (fun pre W => I pre W ∧ W.heap[w.heap.size + 1]? = some (.loop (rec .ready none)) ∧ W.heap[w.heap.size]? = some (.deferred (some [])))
      W1 hb1
      (fun s A B row hs hg' hr => ⟨hI s A B row hs.1 hg' (fun r e => .inl (hr r e)), far hg' hr (by omega) hs.2.1, far hg' hr (Nat.le_refl _) hs.2.2⟩)
      ?_ ⟨hI1, hL1, hK1⟩).mono ?_
    · rintro pre x post W hxs ⟨hi, hl, hk⟩
      have hlt : w.heap.size + 1 < W.heap.size := (Array.getElem?_eq_some_iff.1 hl).1
      have hy := run_yield (P := P) (args := encs x) hl (by rw [hrec]; exact hps x)
      rw [hrec] at hy
      refine ⟨fn, _, assign, body, hy, roundIn_of_wpIn hfn (hassign _ pre x W _ hi ?_)⟩
      clear hy
      intro a' Wa hkfa hkpa hia hax
      have hl' := hkfa.same _ _ (by omega) hl rfl
      have hk' := hkfa.same _ _ (Nat.le_refl _) hk rfl
      have hlt' : w.heap.size + 1 < Wa.heap.size := (Array.getElem?_eq_some_iff.1 hl').1
      refine ⟨_, run_beginRound hl' (by rw [hrec]), ?_⟩
      have hl2 : (Wa.putObj (w.heap.size + 1) (.loop { rec .ready none with state := .busy })).heap[w.heap.size + 1]? = some (.loop { rec .ready none with state := .busy }) := World.putObj_heap_same hlt'
      have hk2 : (Wa.putObj (w.heap.size + 1) (.loop { rec .ready none with state := .busy })).heap[w.heap.size]? = some (.deferred (some [])) := (World.putObj_heap_other (by omega)).trans hk'
      have hw2 : Kp Wa (Wa.putObj (w.heap.size + 1) (.loop { rec .ready none with state := .busy })) := hKb _ _ _ (by omega)
      refine wpIn_mono (hbody _ pre x post a' _ hxs (hIp _ hia (by omega) hl' rfl) (hAx x a' _ _ _ hax (grownBy_putObj' _ _ _) (by omega) ⟨_, hl', rfl⟩)) ?_
      rintro e a3 W3 hp
      cases e with
      | normal =>
        obtain ⟨hk3, hkp3, hi3⟩ := hp
        have hl3 := hk3.same _ _ (by omega) hl2 rfl
        have hr : (Instr.endRound (w.heap.size + 1) none).run P W3 = .ok (.bool true) (W3.putObj (w.heap.size + 1) (.loop (rec .ready none))) := by
          have := run_endRound (P := P) none hl3
          rw [hrec] at this ⊢; exact this
        exact ⟨_, _, hr, rfl, ⟨hIp _ hi3 (by omega) hl3 rfl, World.putObj_heap_same (Array.getElem?_eq_some_iff.1 hl3).1, (World.putObj_heap_other (by omega)).trans (hk3.same _ _ (Nat.le_refl _) hk2 rfl)⟩, hKt hkpa (hKt (hKt hw2 hkp3) (hKb _ _ _ (by omega)))⟩
      | ret => exact hp.elim
      | exit id => exact hp.elim
      | goto t => exact hp.elim
      | panic ch => exact hp.elim
      | outgrown => exact hp.elim
    · rintro e W2 ⟨⟨v, rfl⟩, hi, hl, hk⟩
      exact ⟨none, _, by have := run_endLoop (P := P) hl (by rw [hrec]; simp); rw [hrec] at this; exact this, hdone _ _ (Nat.le_refl _) (hIp _ hi (by omega) hl rfl) ((World.putObj_heap_other (by omega)).trans hk)⟩

/-- .. where the loop's variable lies in a box of its own -/
theorem wp_range_box {F : Fence} {n : Nat} {P : Program} {α : Type} {g : Operand} {p : Tmp} {assign body : Code} {Q : Exit → Act → World → Prop} {a : Act} {w : World}
    (s : Nat) (T : TypeId) (cf : α → Array Value)
    (hro : F.round = none) (h1 : 1 ≤ n) {gf : Nat} {lb : Array Value} (hg : a.eval g = .func (.func gf) #[] lb) (hFg : F.fn gf) (eg : ∀ args w, (callFunc gf args).run P w = .ok (.enter gf args) w)
    {enc : α → Value} {Kp : World → World → Prop} {M : Nat → Prop} {xs : List α} (hseq : Gives F (n - 1) P gf lb (fun x => #[enc x]) Kp M xs w)
    (hKt : ∀ {A B C : World}, Kp A B → Kp B C → Kp A C) (hKb : ∀ (W : World) (l : Nat) (o' : Obj), w.heap.size ≤ l → Kp W (W.putObj l o')) (hM : ∀ r, M r → r < w.heap.size)
    (I : List α → World → Prop) (hI : ∀ s A B row, I s A → A.grownBy B row → (∀ r, row = some r → M r ∨ (w.heap.size ≤ r ∧ ∃ o : Obj, A.heap[r]? = some o ∧ o.isCells = false)) → I s B) (h0 : I [] w)
    (hassign : ∀ (l : Nat) (pre : List α) (x : α) (W : World) (K : Act → World → Prop), I pre W →
      (∀ (gs : Nat) W', KeepsFrom w.heap.size W W' → Kp W W' → I pre W' → w.heap.size ≤ gs → W'.heap[gs]? = some (.cells (cf x) T (0, 0)) →
        K { tmps := (a.tmps.setIfInBounds p (enc x)).setIfInBounds s (.pointer (some ⟨gs, 0, none⟩)), defers := [] } W') →
      assign.wpIn (F.inRound l) (n - 1 - 1) P (Exit.then K (fun _ _ _ => False)) { tmps := a.tmps.setIfInBounds p (enc x), defers := [] } W)
    (hbody : ∀ (l : Nat) (pre : List α) (x : α) (post : List α) (gs : Nat) (W : World), xs = pre ++ x :: post → I pre W → w.heap.size ≤ gs → W.heap[gs]? = some (.cells (cf x) T (0, 0)) →
      body.wpIn (F.inRound l) (n - 1 - 1) P (roundOn w.heap.size Kp I (pre ++ [x]) W) { tmps := (a.tmps.setIfInBounds p (enc x)).setIfInBounds s (.pointer (some ⟨gs, 0, none⟩)), defers := [] } W)
    (hdone : ∀ (D : Nat) (W : World), w.heap.size ≤ D → I xs W → W.heap[D]? = some (.deferred (some [])) → Q .normal { a with defers := { target := .collected D, args := #[] } :: a.defers } W) :
    (Code.rangeFunc g #[p] assign body).wpIn F n P Q a w :=
  have hz : ∀ (v : Value) (t : Array Value), (#[p].zip #[v]).foldl (fun t (p, v) => t.setIfInBounds p v) t = t.setIfInBounds p v := fun v t => by simp
  wp_range hro h1 hg hFg eg hseq hKt hKb hM (fun _ => rfl) I hI h0
    (fun x a' W => ∃ gs, w.heap.size ≤ gs ∧ W.heap[gs]? = some (.cells (cf x) T (0, 0)) ∧ a' = { tmps := (a.tmps.setIfInBounds p (enc x)).setIfInBounds s (.pointer (some ⟨gs, 0, none⟩)), defers := [] })
    (by
      rintro x a' A B r ⟨gs, h1, h2, h3⟩ hG hr ⟨o, ho, hc⟩
      refine ⟨gs, h1, (hG.block gs (Array.getElem?_eq_some_iff.1 h2).1 (fun e => ?_)).trans h2, h3⟩
      injection e with e
      subst e
      rw [h2] at ho
      injection ho with ho
      subst ho
      cases hc)
    (fun l pre x W K hi hK => by
      rw [hz]
      exact hassign l pre x W K hi (fun gs W' k1 k2 k3 k4 k5 => hK _ _ k1 k2 k3 ⟨gs, k4, k5, rfl⟩))
    (fun l pre x post a' W hx hi ha => by
      obtain ⟨gs, h1, h2, rfl⟩ := ha
      exact hbody l pre x post gs W hx hi h1 h2)
    hdone
end Go.Proofs.YtlnaeppbhjmocaaDoor
set_option linter.unusedSimpArgs false
set_option linter.unusedVariables false
namespace Go.Proofs.YtlnaeppbhjmocaaDoor
open Go.RowKit Go.Proofs

theorem ish_trans {w w1 : World} {r r' r'' : Option Nat} (h : Ownish w r r') (hs : w.heap.size ≤ w1.heap.size) (k : Ownish w1 r' r'') : Ownish w r r'' := by
  rcases k with e | ⟨x, e, hx⟩
  · rw [e]; exact h
  · exact .inr ⟨x, e, by omega⟩
theorem strCells_I (s : ByteArray) : Lib.strCells s = (bytesI s).map (Value.int .u8) := by
  unfold Lib.strCells bytesI
  rw [List.map_map]
  rfl
set_option maxRecDepth 100000 in
theorem append_str (ty : TypeId) (B : Nat) (A : Option Addr) (c : Nat) (xs : List Int) (s : ByteArray) (w : World) (ho : OwnB w B (.slice A xs.length c) xs) (hl : xs.length + s.size ≤ 1099511627776) (hB : B ≤ w.heap.size) :
    ∃ v' w', (Builtin.append_ #[22, 9] ty #[.slice A xs.length c, .string s]).run Tryd.prog w = .ok v' w' ∧ OwnB w' B v' (xs ++ bytesI s) ∧ w.grownBy w' (Value.slice A xs.length c).ownBlock ∧ Ownish w (Value.slice A xs.length c).ownBlock v'.ownBlock := by
  obtain ⟨i, hi, hz, hs, hby⟩ := info_byte
  obtain ⟨v', w', hr, h2, h3, h4⟩ := Lib.run_append_own_string (P := Tryd.prog) w B 22 9 ty 5 i Tryd.underlying22 Tryd.underlying9 hi hz hs hby (.slice A xs.length c) xs.length (xs.map (Value.int .u8)) ho s (by unfold maxLen; omega) (by omega) hB
  refine ⟨v', w', hr, ?_, h3, ?_⟩
  · unfold OwnB
    rw [List.length_append, List.map_append, bytesI_length, ← strCells_I]
    exact h2
  · rcases ho.2 with ⟨hv, h0⟩ | ⟨g, cap, cur, hv, hbg, hg, hnc, hcm, hcs, htake⟩
    · by_cases hm : s.size = 0
      · left; rw [h4.2 ⟨hv, hm⟩, hv]
      · right
        injection hv with e1 e2 e3
        rw [e1, e2, e3] at hr
        have hr2 := run_append_nil_string (P := Tryd.prog) w 22 9 ty 5 i (.int .u8 0) Tryd.underlying22 Tryd.underlying9 hi hz s (by omega) (by omega) (by rw [hby]; omega)
        rw [hr2] at hr
        injection hr with e4 e5
        exact ⟨w.heap.size, by rw [← e4]; rfl, Nat.le_refl _⟩
    · injection hv with e1 e2 e3
      subst e1 e3
      by_cases hroom : xs.length + s.size ≤ c
      · left
        have hr2 := Lib.run_append_room_string (P := Tryd.prog) w 22 9 ty 5 i Tryd.underlying22 Tryd.underlying9 hi hs g xs.length c cur hg s hroom (by omega)
        rw [hr2] at hr
        injection hr with e4 e5
        rw [← e4]; rfl
      · right
        have holds : ∀ j u, (xs.map (Value.int .u8))[j]? = some u → w.cell? ((⟨g, 0, none⟩ : Addr).add j) = some u := World.ownsRow.cells ho (g := g) rfl
        have hr2 := Lib.run_append_grow_string (P := Tryd.prog) w 22 9 ty 5 i (.int .u8 0) Tryd.underlying22 Tryd.underlying9 hi hz ⟨g, 0, none⟩ xs.length c (xs.map (Value.int .u8)) (by rw [hs]; simp) holds s (by omega) (by omega) (by rw [hby]; exact growslice_fits (by omega) (by omega))
        rw [hr2] at hr
        injection hr with e4 e5
        exact ⟨w.heap.size, by rw [← e4]; rfl, Nat.le_refl _⟩
/-- append of bytes that lie somewhere -/
theorem append_row (ty : TypeId) (B : Nat) (A : Option Addr) (c : Nat) (xs ys : List Int) (a : Option Addr) (d : Nat) (w : World) (ho : OwnB w B (.slice A xs.length c) xs) (hA : BytesAt w a ys) (hn : a = none → d = 0) (hl : xs.length + ys.length ≤ 1099511627776) (hB : B ≤ w.heap.size) :
    ∃ v' w', (Builtin.append_ #[22, 22] ty #[.slice A xs.length c, .slice a ys.length d]).run Tryd.prog w = .ok v' w' ∧ OwnB w' B v' (xs ++ ys) ∧ w.grownBy w' (Value.slice A xs.length c).ownBlock ∧ Ownish w (Value.slice A xs.length c).ownBlock v'.ownBlock := by
  obtain ⟨i, hi, hz, hs, hby⟩ := info_byte
  obtain ⟨v', w', hr, h2, h3, h4⟩ := append_src Tryd.underlying22 hi hz hs hby rfl (by decide) ty ho a ys.length d (ys.map (Value.int .u8)) (bytes_src hA hn) (by simp) (map_one ys) (by unfold maxLen; omega) (by omega) hB
  refine ⟨v', w', hr, ?_, h3, ?_⟩
  · unfold OwnB
    rw [List.length_append, List.map_append]
    exact h2
  · rcases h4 with e | e
    · exact .inl e
    · exact .inr ⟨_, e, Nat.le_refl _⟩
/-- append of some bytes as they stand in the text -/
theorem append_lit (ty : TypeId) (B : Nat) (A : Option Addr) (c : Nat) (xs ys : List Int) (w : World) (ho : OwnB w B (.slice A xs.length c) xs) (hl : xs.length + ys.length ≤ 1099511627776) (hB : B ≤ w.heap.size) :
    ∃ w1 v' w', w.alloc (.cells ((ys.map (Value.int .u8)).toArray) 5) = w1 ∧ (Builtin.append_ #[22, 22] ty #[.slice A xs.length c, .slice (some ⟨w.heap.size, 0, none⟩) ys.length ys.length]).run Tryd.prog w1 = .ok v' w' ∧ OwnB w' B v' (xs ++ ys) ∧ w.grownBy w' (Value.slice A xs.length c).ownBlock ∧ Ownish w (Value.slice A xs.length c).ownBlock v'.ownBlock := by
  have hg : ∀ r, w.grownBy (w.alloc (.cells ((ys.map (Value.int .u8)).toArray) 5)) r := fun r => World.grownBy_alloc _ _ r
  have ho1 : OwnB (w.alloc (.cells ((ys.map (Value.int .u8)).toArray) 5)) B (.slice A xs.length c) xs := World.ownsRow.kept ho (hg none) (by cases (Value.slice A xs.length c).ownBlock <;> simp)
  have hA : BytesAt (w.alloc (.cells ((ys.map (Value.int .u8)).toArray) 5)) (some ⟨w.heap.size, 0, none⟩) ys := by
    refine .inr ⟨w.heap.size, 0, rfl, by simp, fun i x hx => ?_⟩
    rw [Nat.zero_add]
    exact blk_cell (World.alloc_heap_new w _) (by simp [hx])
  obtain ⟨v', w', hr, h2, h3, h4⟩ := append_row ty B A c xs ys (some ⟨w.heap.size, 0, none⟩) ys.length _ ho1 hA (fun e => by cases e) hl (by simp; omega)
  exact ⟨_, v', w', rfl, hr, h2, grown_trans (hg _) h3, ish_trans (.inl rfl) (by simp) h4⟩

/-- what a piece's writer holds: the row in its box, the leaf in another -/
structure PcS (w0 W : World) (B gb gl : Nat) (r0 : Option Nat) (cs : Array Value) (v : Value) (ys : List Int) : Prop where
  box : Boxed W gb 22 v
  own : OwnB W B v ys
  grown : w0.grownBy W r0
  ish : Ownish w0 r0 v.ownBlock
  leaf : W.heap[gl]? = some (.cells cs 45 (0, 0))
  hgb : w0.heap.size ≤ gb
  hgl : w0.heap.size ≤ gl
  ne : gl ≠ gb
theorem PcS.size {w0 W : World} {B gb gl : Nat} {r0 : Option Nat} {cs : Array Value} {v : Value} {ys : List Int} (h : PcS w0 W B gb gl r0 cs v ys) : w0.heap.size ≤ W.heap.size := h.grown.size
theorem PcS.form {w0 W : World} {B gb gl : Nat} {r0 : Option Nat} {cs : Array Value} {v : Value} {ys : List Int} (h : PcS w0 W B gb gl r0 cs v ys) : ∃ a d, v = .slice a ys.length d := h.own.form
/-- what the row's appends and new blocks leave -/
theorem PcS.keep {w0 W W1 : World} {B gb gl : Nat} {r0 : Option Nat} {cs : Array Value} {v : Value} {ys : List Int} (h : PcS w0 W B gb gl r0 cs v ys) (q : W.grownBy W1 v.ownBlock) : Boxed W1 gb 22 v ∧ W1.heap[gl]? = some (.cells cs 45 (0, 0)) ∧ w0.grownBy W1 r0 := by
  refine ⟨h.box.kept q (own_ne3 h.own h.box (by decide)), ?_, grown_ish h.grown q h.ish⟩
  exact (q.block gl (Array.getElem?_eq_some_iff.1 h.leaf).1 (own_ne3 h.own h.leaf (by decide))).trans h.leaf
theorem PcS.step {w0 W W1 : World} {B gb gl : Nat} {r0 : Option Nat} {cs : Array Value} {v v1 : Value} {ys zs : List Int} (h : PcS w0 W B gb gl r0 cs v ys) (q : W.grownBy W1 v.ownBlock) (O : OwnB W1 B v1 zs) (hi : Ownish W v.ownBlock v1.ownBlock) :
    ∃ W2, W1.setCell ⟨gb, 0, none⟩ v1 = W2 ∧ PcS w0 W2 B gb gl r0 cs v1 zs := by
  obtain ⟨k1, k2, k3⟩ := h.keep q
  have g2 := grownBy_setCell' W1 gb v1
  refine ⟨_, rfl, k1.set v1, ?_, grown_own k3 g2 (fun i e => by injection e with e; have := h.hgb; omega), ish_trans h.ish h.size hi, ?_, h.hgb, h.hgl, h.ne⟩
  · exact own_grown O g2 k1 (by decide)
  · exact (g2.block gl (Array.getElem?_eq_some_iff.1 k2).1 (fun e => by injection e with e; exact h.ne e)).trans k2
theorem PcS.more {w0 W W1 : World} {B gb gl : Nat} {r0 : Option Nat} {cs : Array Value} {v : Value} {ys : List Int} (h : PcS w0 W B gb gl r0 cs v ys) {row : Option Nat} (q : W.grownBy W1 row) (hn : ∀ r, row = some r → w0.heap.size ≤ r ∧ r ≠ gb ∧ r ≠ gl ∧ v.ownBlock ≠ some r) : PcS w0 W1 B gb gl r0 cs v ys := by
  refine ⟨h.box.kept q (fun e => (hn _ e.symm).2.1 rfl), World.ownsRow.kept h.own q ?_, grown_own h.grown q (fun i e => (hn i e).1), h.ish, ?_, h.hgb, h.hgl, h.ne⟩
  · cases hv : v.ownBlock with
    | none => exact .inl rfl
    | some r => exact .inr (fun e => (hn r e.symm).2.2.2 hv)
  · exact (q.block gl (Array.getElem?_eq_some_iff.1 h.leaf).1 (fun e => (hn _ e.symm).2.2.1 rfl)).trans h.leaf
/-- a step of the loop over an iterator leaves it -/
theorem PcS.walk {w0 W W1 : World} {B gb gl : Nat} {r0 : Option Nat} {cs : Array Value} {v : Value} {ys : List Int} (h : PcS w0 W B gb gl r0 cs v ys) {row : Option Nat} (q : W.grownBy W1 row) (hn : ∀ r, row = some r → w0.heap.size ≤ r ∧ ∃ o : Obj, W.heap[r]? = some o ∧ o.isCells = false) : PcS w0 W1 B gb gl r0 cs v ys := by
  refine h.more q (fun r e => ?_)
  obtain ⟨h1, o, ho, hc⟩ := hn r e
  refine ⟨h1, fun e2 => ?_, fun e2 => ?_, fun e2 => ?_⟩
  · subst e2
    have hb : W.heap[r]? = _ := h.box
    rw [hb] at ho; injection ho with ho; subst ho; cases hc
  · subst e2
    rw [h.leaf] at ho; injection ho with ho; subst ho; cases hc
  · rcases h.own.2 with ⟨rfl, _⟩ | ⟨g', cap, cur, rfl, _, hgb', _⟩
    · cases e2
    · have : g' = r := by simpa [Value.ownBlock] using e2
      subst this
      rw [hgb'] at ho; injection ho with ho; subst ho; cases hc
/-- what an append and a store leave of the iterator's blocks and of whatever is no cells -/
theorem PcS.turns {w0 W W1 : World} {B gb gl : Nat} {r0 : Option Nat} {cs : Array Value} {v : Value} {ys : List Int} (h : PcS w0 W B gb gl r0 cs v ys) (q : W.grownBy W1 v.ownBlock) (v1 : Value) (hB0 : 0 < B) (hBw : B ≤ w0.heap.size)
    {gi : Nat} {x : Value} (hi : Boxed W gi 22 x) (hne : gi ≠ gb) {da : Option Addr} (hdB : ∀ a, da = some a → a.block < B) (B0 : Nat) :
    KeepsFrom B0 W (W1.setCell ⟨gb, 0, none⟩ v1) ∧ (W1.setCell ⟨gb, 0, none⟩ v1).heap[0]? = W.heap[0]? ∧ (W1.setCell ⟨gb, 0, none⟩ v1).heap[gi]? = W.heap[gi]? ∧ ∀ a, da = some a → (W1.setCell ⟨gb, 0, none⟩ v1).heap[a.block]? = W.heap[a.block]? := by
  have g2 := grownBy_setCell' W1 gb v1
  have hgb := h.hgb
  have hsz := h.size
  have blk : ∀ k, k < W.heap.size → some k ≠ v.ownBlock → k ≠ gb → (W1.setCell ⟨gb, 0, none⟩ v1).heap[k]? = W.heap[k]? := fun k hk h1 h2 =>
    (g2.block k (Nat.lt_of_lt_of_le hk q.size) (fun e => h2 (by injection e))).trans (q.block k hk h1)
  have low : ∀ k, k < B → some k ≠ v.ownBlock := fun k hk e => by
    have := (World.ownsRow.lt h.own k e.symm).1
    omega
  refine ⟨?_, blk 0 (by omega) (low 0 hB0) (by omega), blk gi hi.lt (own_ne3 h.own hi (by decide)) hne, fun a e => blk a.block (by have := hdB a e; omega) (low _ (hdB a e)) (by have := hdB a e; omega)⟩
  refine KeepsOthers.from (KeepsOthers.trans (KeepsOthers.of_grownBy q (fun j o e ho => ?_)) (KeepsOthers.setCell _ _ _)) B0
  rcases h.own.2 with ⟨rfl, _⟩ | ⟨g', cap, cur, rfl, _, hgb', _⟩
  · cases e
  · have : g' = j := by simpa [Value.ownBlock] using e
    subst this
    rw [hgb'] at ho; injection ho with ho; subst ho; rfl
end Go.Proofs.YtlnaeppbhjmocaaDoor
