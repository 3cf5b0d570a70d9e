/- shaleref18.filled, target, names' callees by their contracts. -/
import Derived.Test.YtlnaeppbhjmocaaDoorR1
import Derived.Test.YtlnaeppbhjmocaaDoorPnamesx2
import Derived.Test.YtlnaeppbhjmocaaDoorPNamex1
import Derived.Test.YtlnaeppbhjmocaaDoorPtargetx1
import Derived.Test.YtlnaeppbhjmocaaDoorPfilledx1
set_option linter.unusedSimpArgs false
set_option linter.unusedVariables false
namespace Go.Proofs.YtlnaeppbhjmocaaDoor
open Go.RowKit Go.Proofs Go.Proofs.YtlnaeppbhjmocaaDoorW.PrintWords Go.Proofs.YtlnaeppbhjmocaaDoorW.PrintMore

def okW (w : List UInt8) : Prop := w ≠ [] ∧ w ≠ [46]
instance (w : List UInt8) : Decidable (okW w) := by unfold okW; infer_instance
def partsL : List UInt8 → List UInt8 → List (List UInt8)
  | word, [] => if okW word then [word] else []
  | word, c :: r => if c = 47 then (if okW word then word :: partsL [] r else partsL [] r) else partsL (word ++ [c]) r
theorem partsL_word (n : List UInt8) (h : (47 : UInt8) ∉ n) : ∀ (w rest : List UInt8), partsL w (n ++ rest) = partsL (w ++ n) rest := by
  induction n with
  | nil => intro w rest; simp
  | cons c r ih =>
    intro w rest
    have hc : c ≠ 47 := fun e => h (by simp [e])
    have hr : (47 : UInt8) ∉ r := fun e => h (by simp [e])
    rw [List.cons_append, partsL, if_neg hc, ih hr]
    simp
theorem partsL_path (ns : List (List UInt8)) (h : ∀ n ∈ ns, okW n ∧ (47 : UInt8) ∉ n) : ∀ w, partsL w (ns.flatMap fun n => 47 :: n) = (if okW w then [w] else []) ++ ns := by
  induction ns with
  | nil => intro w; simp [partsL]
  | cons n r ih =>
    intro w
    have hn := h n (by simp)
    rw [List.flatMap_cons, List.cons_append, partsL, if_pos rfl, partsL_word n hn.2, List.nil_append, ih (fun m hm => h m (by simp [hm])), if_pos hn.1]
    split <;> simp
theorem bt_lt {s : ByteArray} {i : Nat} (h : i < s.size) : ∃ c : UInt8, s.data.toList.drop i = c :: s.data.toList.drop (i + 1) ∧ bt s (i : Int) = (c.toNat : Int) ∧ s.extract i (i + 1) = ⟨#[c]⟩ := by
  have h1 : i < s.data.size := h
  have h2 : i < s.data.toList.length := by simpa using h1
  refine ⟨s.data.toList[i], List.drop_eq_getElem_cons h2, ?_, ?_⟩
  · unfold bt
    rw [dif_pos (show (i : Int).toNat < s.size from h)]
    rfl
  · apply ByteArray.ext
    rw [ByteArray.data_extract]
    apply Array.ext
    · simp; omega
    · intro j hj1 hj2
      have hj : j = 0 := by simpa using hj2
      subst hj
      simp
theorem toL (s : ByteArray) : s.toList = s.data.toList := ByteArray.toList_eq s
def toB (w : List UInt8) : ByteArray := ⟨w.toArray⟩
theorem parts_j1 (k : Nat) (s : ByteArray) (l : List ByteArray) (word : ByteArray) (i : Nat) (hi : i ≤ 1048576) (hl : l.length ≤ i) :
    Pnames.shaleref16_parts.j1 (k + 1) s l word (i : Int) false = Pnames.shaleref16_parts.l0 k s (if okW word.data.toList then l ++ [word] else l) ⟨#[]⟩ ((i + 1 : Nat) : Int) := by
  simp only [Pnames.shaleref16_parts.j1, toL]
  rw [if_neg (by simp), wr64 ⟨by omega, by omega⟩, Int.natCast_add]
  by_cases h1 : word.data.toList = []
  · rw [if_pos h1, if_neg (fun h => h.1 h1)]; rfl
  · rw [if_neg h1]
    by_cases h2 : word.data.toList = [46]
    · rw [if_pos h2, if_neg (fun h => h.2 h2)]; rfl
    · rw [if_neg h2, if_pos (by omega), if_pos (show okW word.data.toList from And.intro h1 h2)]; rfl
theorem parts_l0 (s : ByteArray) (hs : s.size ≤ 1048575) : ∀ (d k : Nat) (l : List ByteArray) (word : ByteArray) (i : Nat), i + d = s.size → 2 * d + 3 ≤ k → l.length ≤ i → word.size ≤ i →
    Pnames.shaleref16_parts.l0 k s l word (i : Int) = some (l ++ (partsL word.data.toList (s.data.toList.drop i)).map toB) := by
  intro d
  induction d with
  | zero =>
    intro k l word i h hk hl hw
    obtain ⟨k, rfl⟩ : ∃ m, k = m + 3 := ⟨k - 3, by omega⟩
    have hd : s.data.toList.drop i = [] := List.drop_eq_nil_of_le (by rw [show s.data.toList.length = s.size from rfl]; omega)
    rw [Pnames.shaleref16_parts.l0, if_pos (by omega), if_neg (by omega), parts_j1 _ _ _ _ _ (by omega) hl, Pnames.shaleref16_parts.l0, if_neg (by omega), hd, partsL]
    by_cases h1 : okW word.data.toList
    · rw [if_pos h1, if_pos h1]; simp [toB]
    · rw [if_neg h1, if_neg h1]; simp
  | succ d ih =>
    intro k l word i h hk hl hw
    obtain ⟨k, rfl⟩ : ∃ m, k = m + 2 := ⟨k - 2, by omega⟩
    obtain ⟨c, hd, hb, he⟩ := bt_lt (s := s) (i := i) (by omega)
    rw [Pnames.shaleref16_parts.l0, if_pos (by omega), if_pos (by omega), if_pos (by omega), hb, hd, partsL]
    by_cases h1 : c = 47
    · subst h1
      rw [if_pos rfl, show ((((47 : UInt8).toNat : Int)) != 47) = false from by decide, parts_j1 _ _ _ _ _ (by omega) hl, ih k (if okW word.data.toList then l ++ [word] else l) ⟨#[]⟩ (i + 1) (by omega) (by omega) (by split; (rw [List.length_append]; show l.length + 1 ≤ i + 1; omega); omega) (show 0 ≤ i + 1 by omega)]
      by_cases h2 : okW word.data.toList
      · rw [if_pos h2, if_pos h2]; simp [toB]
      · rw [if_neg h2, if_neg h2]
    · have h2 : (((c.toNat : Int)) != 47) = true := by
        simp only [bne_iff_ne, ne_eq]
        intro h
        exact h1 (UInt8.toNat_inj.mp (by simpa using (by omega : c.toNat = 47)))
      have w1 : wrap64 ((i : Int) + 1) = ((i + 1 : Nat) : Int) := by rw [wr64 ⟨by omega, by omega⟩]; omega
      rw [if_neg h1, h2]
      simp only [Pnames.shaleref16_parts.j1, w1, Int.toNat_natCast, he]
      rw [if_pos trivial, if_pos (by omega), if_pos (by omega), if_pos (by omega), if_pos (show word.size + (⟨#[c]⟩ : ByteArray).size ≤ 9223372036854775807 by (show word.size + 1 ≤ _); omega), ih k _ _ (i + 1) (by omega) (by omega) (by omega) (by rw [ByteArray.size_append]; show word.size + 1 ≤ i + 1; omega)]
      congr 3
      first | done | (rw [ByteArray.data_append]; simp)
theorem zero_l0 (s : ByteArray) (hs : s.size ≤ 1048575) (h0 : (0 : UInt8) ∉ s.data.toList) : ∀ (d k i : Nat), i + d = s.size → d < k → Pnames.shaleref16_zero.l0 k s (i : Int) = some false := by
  intro d
  induction d with
  | zero =>
    intro k i h hk
    obtain ⟨k, rfl⟩ : ∃ m, k = m + 1 := ⟨k - 1, by omega⟩
    rw [Pnames.shaleref16_zero.l0, if_neg (by omega)]
  | succ d ih =>
    intro k i h hk
    obtain ⟨k, rfl⟩ : ∃ m, k = m + 1 := ⟨k - 1, by omega⟩
    obtain ⟨c, hd, hb, he⟩ := bt_lt (s := s) (i := i) (by omega)
    have hc : c ∈ s.data.toList := List.mem_of_mem_drop (i := i) (by rw [hd]; simp)
    have w1 : wrap64 ((i : Int) + 1) = ((i + 1 : Nat) : Int) := by rw [wr64 ⟨by omega, by omega⟩]; omega
    rw [Pnames.shaleref16_zero.l0, if_pos (by omega), if_pos (by omega), hb, if_neg (fun h => h0 (by have : c = 0 := UInt8.toNat_inj.mp (by simpa using (by omega : c.toNat = 0)); rw [← this]; exact hc)), w1]
    exact ih k (i + 1) (by omega) (by omega)
theorem rdOf_nat (l : List ByteArray) (i : Nat) (h : i < l.length) : rdOf ByteArray.empty l (i : Int) = l[i] := by
  unfold rdOf
  rw [Int.toNat_natCast]
  simp [List.getD, h]
theorem names_l0 (l : List ByteArray) (hl : l.length ≤ 1048576) (h : ∀ n ∈ l, n.size ≤ 63) : ∀ (d k i : Nat), i + d = l.length → d < k → Pnames.shaleref16_names.l0 k l (i : Int) = some (l, 0) := by
  intro d
  induction d with
  | zero =>
    intro k i hh hk
    obtain ⟨k, rfl⟩ : ∃ m, k = m + 1 := ⟨k - 1, by omega⟩
    rw [Pnames.shaleref16_names.l0, if_neg (by omega)]
  | succ d ih =>
    intro k i hh hk
    obtain ⟨k, rfl⟩ : ∃ m, k = m + 1 := ⟨k - 1, by omega⟩
    have w1 : wrap64 ((i : Int) + 1) = ((i + 1 : Nat) : Int) := by rw [wr64 ⟨by omega, by omega⟩]; omega
    have h2 := h l[i] (List.getElem_mem (by omega))
    rw [Pnames.shaleref16_names.l0, if_pos (by omega), if_pos (by omega), rdOf_nat l i (by omega), if_neg (by omega), w1]
    exact ih k (i + 1) (by omega) (by omega)
theorem names18_l0 (l : List ByteArray) (hl : l.length ≤ 1048576) (h : ∀ n ∈ l, n.data.toList ≠ [46, 46]) : ∀ (d k i : Nat), i + d = l.length → d < k → Pnames.shaleref18_names.l0 k l (i : Int) = some (l, true) := by
  intro d
  induction d with
  | zero =>
    intro k i hh hk
    obtain ⟨k, rfl⟩ : ∃ m, k = m + 1 := ⟨k - 1, by omega⟩
    rw [Pnames.shaleref18_names.l0, if_neg (by omega)]
  | succ d ih =>
    intro k i hh hk
    obtain ⟨k, rfl⟩ : ∃ m, k = m + 1 := ⟨k - 1, by omega⟩
    have w1 : wrap64 ((i : Int) + 1) = ((i + 1 : Nat) : Int) := by rw [wr64 ⟨by omega, by omega⟩]; omega
    have h2 := h l[i] (List.getElem_mem (by omega))
    rw [Pnames.shaleref18_names.l0, if_pos (by omega), if_pos (by omega), rdOf_nat l i (by omega), toL, if_neg h2, w1]
    exact ih k (i + 1) (by omega) (by omega)
theorem together_l0 (l : List ByteArray) (hl : (l.flatMap fun n => slash :: n.data.toList).length ≤ 1048576) (hl2 : l.length ≤ 1048576) : ∀ (d k i : Nat) (s : ByteArray), i + d = l.length → d < k → s.data.toList = ((l.take i).flatMap fun n => slash :: n.data.toList) →
    Pnames.shaleref16_together.l0 k l s (i : Int) = some ⟨(l.flatMap fun n => slash :: n.data.toList).toArray⟩ := by
  intro d
  induction d with
  | zero =>
    intro k i s hh hk hs
    obtain ⟨k, rfl⟩ : ∃ m, k = m + 1 := ⟨k - 1, by omega⟩
    rw [Pnames.shaleref16_together.l0, if_neg (by omega)]
    rw [List.take_of_length_le (by omega)] at hs
    rw [← hs]
  | succ d ih =>
    intro k i s hh hk hs
    obtain ⟨k, rfl⟩ : ∃ m, k = m + 1 := ⟨k - 1, by omega⟩
    have w1 : wrap64 ((i : Int) + 1) = ((i + 1 : Nat) : Int) := by rw [wr64 ⟨by omega, by omega⟩]; omega
    have hsp : l.take (i + 1) = l.take i ++ [l[i]] := (List.take_append_getElem (by omega)).symm
    have hle : ((l.take (i + 1)).flatMap fun n => slash :: n.data.toList).length ≤ (l.flatMap fun n => slash :: n.data.toList).length := by
      conv => rhs; rw [← List.take_append_drop (i + 1) l]
      rw [List.flatMap_append, List.length_append]; omega
    have hnx : (s ++ ((⟨#[47]⟩ : ByteArray) ++ l[i])).data.toList = ((l.take (i + 1)).flatMap fun n => slash :: n.data.toList) := by
      rw [hsp, List.flatMap_append, ← hs, ByteArray.data_append, ByteArray.data_append]
      simp [slash]
    have hsz : (s ++ ((⟨#[47]⟩ : ByteArray) ++ l[i])).size ≤ 1048576 := by
      have h9 : (s ++ ((⟨#[47]⟩ : ByteArray) ++ l[i])).size = (s ++ ((⟨#[47]⟩ : ByteArray) ++ l[i])).data.toList.length := rfl
      rw [h9, hnx]; omega
    have hsz2 := hsz
    rw [ByteArray.size_append] at hsz2
    have hsz3 := hsz2
    rw [ByteArray.size_append] at hsz3
    rw [Pnames.shaleref16_together.l0, if_pos (by omega), if_pos (by omega), rdOf_nat l i (by omega), if_pos (by have : (⟨#[47]⟩ : ByteArray).size = 1 := rfl; omega), if_pos (by omega), w1]
    exact ih k (i + 1) _ (by omega) (by omega) hnx
theorem nameB_all {n : ByteArray} (h : nameB n = true) : okW n.data.toList ∧ (47 : UInt8) ∉ n.data.toList ∧ (0 : UInt8) ∉ n.data.toList ∧ n.size ≤ 63 ∧ n.data.toList ≠ [46, 46] := by
  unfold nameB noneOf at h
  simp only [Bool.and_eq_true, decide_eq_true_eq, bne_iff_ne, ne_eq, List.all_eq_true] at h
  obtain ⟨⟨⟨h1, h2⟩, h3⟩, h4⟩ := h
  refine ⟨⟨fun e => ?_, h2⟩, fun e => (h4 _ e).2 rfl, fun e => (h4 _ e).1 rfl, h1.2, h3⟩
  have : n.data.toList.length = n.size := rfl
  rw [e] at this
  simp at this
  omega
def pathL (ns : List ByteArray) : List UInt8 := if ns = [] then [47] else ns.flatMap fun n => slash :: n.data.toList
theorem pathOf_data (ns : List ByteArray) : (pathOf ns).data.toList = pathL ns := by
  unfold pathOf pathL
  split <;> simp
theorem pathL_head (ns : List ByteArray) : ∃ r, pathL ns = 47 :: r := by
  unfold pathL
  cases ns with
  | nil => exact ⟨[], rfl⟩
  | cons n r => rw [if_neg (by simp), List.flatMap_cons]; exact ⟨_, rfl⟩
theorem pathL_zero {ns : List ByteArray} (h : ∀ n ∈ ns, nameB n = true) : (0 : UInt8) ∉ pathL ns := by
  unfold pathL
  split
  · decide
  · intro e
    obtain ⟨n, hn, hm⟩ := List.mem_flatMap.mp e
    rcases List.mem_cons.mp hm with h1 | h1
    · revert h1; decide
    · exact (nameB_all (h n hn)).2.2.1 h1
theorem pathL_parts {ns : List ByteArray} (h : ∀ n ∈ ns, nameB n = true) : (partsL [] (pathL ns)).map toB = ns := by
  unfold pathL
  split
  · rename_i e; subst e; rfl
  · have h2 := partsL_path (ns.map fun n => n.data.toList) (fun m hm => by
      obtain ⟨n, hn, rfl⟩ := List.mem_map.mp hm
      exact ⟨(nameB_all (h n hn)).1, (nameB_all (h n hn)).2.1⟩) []
    rw [List.flatMap_map] at h2
    rw [show (ns.flatMap fun n => slash :: n.data.toList) = (ns.flatMap fun n => 47 :: n.data.toList) from rfl, h2, if_neg (fun e => e.1 rfl), List.nil_append, List.map_map]
    conv => rhs; rw [← List.map_id ns]
    refine List.map_congr_left fun n _ => ?_
    simp [toB]
theorem split_path (ns : List ByteArray) (k : Nat) (h : ∀ n ∈ ns, nameB n = true) (hd : ns.length ≤ 64) (hsz : (pathOf ns).size ≤ 1048575) (hk : 2 * 1048576 + 8 ≤ k) :
    Pnames.shaleref16_Split.f k (pathOf ns) = if 1023 < (pathOf ns).size then some ([], 161) else some (ns, 0) := by
  obtain ⟨r, hr⟩ := pathL_head ns
  have hD := pathOf_data ns
  have hlen : (pathOf ns).data.toList.length = (pathOf ns).size := rfl
  have hpos : 0 < (pathOf ns).size := by rw [← hlen, hD, hr]; simp
  obtain ⟨c, hc1, hc2, _⟩ := bt_lt (s := pathOf ns) (i := 0) hpos
  have hc : c = 47 := by rw [List.drop_zero, hD, hr] at hc1; injection hc1 with e; exact e.symm
  subst hc
  have hz := zero_l0 (pathOf ns) hsz (by rw [hD]; exact pathL_zero h) (pathOf ns).size k 0 (by omega) (by omega)
  have hp := parts_l0 (pathOf ns) hsz (pathOf ns).size k [] ⟨#[]⟩ 0 (by omega) (by omega) (by simp) (Nat.le_refl 0)
  rw [List.drop_zero, hD, List.nil_append] at hp
  rw [show (⟨#[]⟩ : ByteArray).data.toList = [] from rfl, pathL_parts h] at hp
  have hn := names_l0 ns (by omega) (fun n hn => (nameB_all (h n hn)).2.2.2.1) ns.length k 0 (by omega) (by omega)
  have hnm : Pnames.shaleref16_names.f k (pathOf ns) = if 1023 < (pathOf ns).size then some ([], 161) else some (ns, 0) := by
    unfold Pnames.shaleref16_names.f Pnames.shaleref16_zero.f Pnames.shaleref16_parts.f
    simp only [Int.ofNat_zero, Int.natCast_zero] at hz hp hn
    rw [hz, Option.bind_some, if_neg (by simp), hp, Option.bind_some, hn, if_neg (show ¬ ((ns.length : Int) > 64) by omega)]
    by_cases h9 : 1023 < (pathOf ns).size
    · rw [if_pos (by omega), if_pos h9]
    · rw [if_neg (by omega), if_neg h9]
  have hc3 : bt (pathOf ns) 0 = 47 := hc2
  unfold Pnames.shaleref16_Split.f
  rw [toL, if_neg (by rw [hD, hr]; simp), if_pos (by omega), hc3, if_pos rfl, hnm]
  by_cases h9 : 1023 < (pathOf ns).size
  · rw [if_pos h9]; rfl
  · rw [if_neg h9]; rfl
theorem names_path (ns : List ByteArray) (k : Nat) (h : ∀ n ∈ ns, nameB n = true) (hd : ns.length ≤ 64) (hsz : (pathOf ns).size ≤ 1048575) (hk : 2 * 1048576 + 9 ≤ k) :
    Pnames.shaleref18_names.f k (pathOf ns) = if 1023 < (pathOf ns).size then some ([], false) else some (ns, true) := by
  obtain ⟨k, rfl⟩ : ∃ m, k = m + 1 := ⟨k - 1, by omega⟩
  have hs1 := split_path ns (k + 1) h hd hsz (by omega)
  have hs2 := split_path ns k h hd hsz (by omega)
  unfold Pnames.shaleref18_names.f Pnames.shaleref16_Clean.f
  rw [hs1]
  by_cases h9 : 1023 < (pathOf ns).size
  · rw [if_pos h9, if_pos h9, Option.bind_some, if_neg (by decide), Option.bind_some, if_neg (by decide), Pnames.shaleref18_names.j0, if_pos rfl]
  · have ht : Pnames.shaleref16_trimmed.f (k + 1) ns = some ns := by
      unfold Pnames.shaleref16_trimmed.f
      rw [Pnames.shaleref16_trimmed.l0]
      cases ns with
      | nil => rfl
      | cons n r =>
        have hn := (nameB_all (h n (by simp))).2.2.2.2
        rw [if_pos (by rw [List.length_cons]; omega), if_pos (by rw [List.length_cons]; omega), show rdOf ByteArray.empty (n :: r) 0 = n from rfl, toL, if_neg hn]
    have hg : Pnames.shaleref16_together.f (k + 1) ns = some (pathOf ns) := by
      unfold Pnames.shaleref16_together.f pathOf
      by_cases he : ns = []
      · subst he; rfl
      · have hl : ns.length ≠ 0 := fun e => he (List.length_eq_zero_iff.mp e)
        rw [if_neg he, if_neg (by omega)]
        refine together_l0 ns ?_ (by omega) ns.length (k + 1) 0 ⟨#[]⟩ (by omega) (by omega) (by simp)
        have := pathOf_data ns
        unfold pathL at this
        rw [if_neg he] at this
        rw [← this]
        show (pathOf ns).size ≤ _
        omega
    rw [if_neg h9, if_neg h9, Option.bind_some, if_pos rfl, ht, Option.bind_some, hg, Option.bind_some, Option.bind_some, if_pos rfl, Pnames.shaleref18_names.j0, if_neg (by simp), hs2, if_neg h9, Option.bind_some]
    exact names18_l0 ns (by omega) (fun n hn => (nameB_all (h n hn)).2.2.2.2) ns.length k 0 (by omega) (by omega)
/-- a row of names behind a pointer -/
def SRow (w : World) (A : Option Addr) (l : List ByteArray) : Prop := ∀ i (h : i < l.length), ∃ g, A = some ⟨g, 0, none⟩ ∧ w.cell? ⟨g, i, none⟩ = some (.string l[i])
theorem SRow.fr {w w' : World} {A : Option Addr} {l : List ByteArray} (h : SRow w A l) (q : Fr w w') : SRow w' A l := fun i hi => by
  obtain ⟨g, hg, hc⟩ := h i hi
  exact ⟨g, hg, q.cell hc⟩
theorem names_run (p : ByteArray) (ns : List ByteArray) (b : Bool) (k : Nat) (h : Pnames.shaleref18_names.f k p = some (ns, b)) (w : World) (hw : Ok w) :
    Calls Tryd.prog 51 #[.string p] w fun e w' => ∃ A c, e = .returned (.tuple #[.slice A ns.length c, .bool b]) ∧ SRow w' A ns ∧ Fr w w' ∧ (∀ a, A = some a → w.heap.size ≤ a.block) := by
  refine (Pnames.shaleref18_names.calls k p ns b w h).mono ?_
  rintro e w' ⟨v, rfl, hR, hb⟩
  obtain ⟨A, c, rfl, hlc, hC⟩ := YtlnaeppbhjmocaaDoorW.PrintWords.Kd.R_reads hR
  obtain ⟨inner, hown⟩ := YtlnaeppbhjmocaaDoorW.PrintWords.Kd.R_own hR
  refine ⟨A, c, rfl, fun i hi => ?_, Fr.of hw hb, fun a e => ?_⟩
  · obtain ⟨ad, rfl, hc⟩ := YtlnaeppbhjmocaaDoorW.PrintWords.Kd.at_string hC (i : Int) (by omega) (by omega)
    rw [rdOf_nat ns i hi, Int.toNat_natCast] at hc
    obtain ⟨g, cap, hg, _⟩ := hown.form (by omega)
    injection hg with hg
    injection hg with hg
    subst hg
    refine ⟨g, rfl, ?_⟩
    rw [Lib.add_plain] at hc
    simpa using hc
  · subst e
    rcases hown.2 with ⟨h1, _⟩ | ⟨g, cap, cur, h1, h2, _⟩
    · cases h1
    · injection h1 with h1
      injection h1 with h1
      subst h1
      exact h2
/-- the names of a good path -/
theorem names_go (ns : List ByteArray) (h : ∀ n ∈ ns, nameB n = true) (hd : ns.length ≤ 64) (hsz : (pathOf ns).size ≤ 1023) (w : World) (hw : Ok w) :
    Calls Tryd.prog 51 #[.string (pathOf ns)] w fun e w' => ∃ A c, e = .returned (.tuple #[.slice A ns.length c, .bool true]) ∧ SRow w' A ns ∧ Fr w w' ∧ (∀ a, A = some a → w.heap.size ≤ a.block) := by
  have h1 := names_path ns 2097161 h hd (by omega) (by omega)
  rw [if_neg (by omega)] at h1
  exact names_run (pathOf ns) ns true _ h1 w hw
end Go.Proofs.YtlnaeppbhjmocaaDoor
set_option linter.unusedSimpArgs false
set_option linter.unusedVariables false
namespace Go.Proofs.YtlnaeppbhjmocaaDoor
open Go.RowKit Go.Proofs Go.Proofs.YtlnaeppbhjmocaaDoorW.PrintWords Go.Proofs.YtlnaeppbhjmocaaDoorW.PrintMore

theorem name_l0 (s : ByteArray) (hs : s.size ≤ 1048575) : ∀ (d k i : Nat), i + d = s.size → d < k → PName.shaleref08_Name.l0 k s (i : Int) = some (if noneOf (s.data.toList.drop i) = true then 0 else 81) := by
  intro d
  induction d with
  | zero =>
    intro k i h hk
    obtain ⟨k, rfl⟩ : ∃ m, k = m + 1 := ⟨k - 1, by omega⟩
    rw [PName.shaleref08_Name.l0, if_neg (by omega), List.drop_eq_nil_of_le (by rw [show s.data.toList.length = s.size from rfl]; omega)]
    rfl
  | succ d ih =>
    intro k i h hk
    obtain ⟨k, rfl⟩ : ∃ m, k = m + 1 := ⟨k - 1, by omega⟩
    obtain ⟨c, hd, hb, he⟩ := bt_lt (s := s) (i := i) (by omega)
    have w1 : wrap64 ((i : Int) + 1) = ((i + 1 : Nat) : Int) := by rw [wr64 ⟨by omega, by omega⟩]; omega
    have hc : ∀ n : UInt8, (c.toNat : Int) = (n.toNat : Int) → c = n := fun n h => UInt8.toNat_inj.mp (by omega)
    rw [PName.shaleref08_Name.l0, if_pos (by omega), if_pos (by omega), hb, hd]
    by_cases h1 : c = 0
    · subst h1; rw [if_pos (show (((0 : UInt8).toNat : Nat) : Int) = 0 from rfl), if_neg (by simp [noneOf])]
    · rw [if_neg (show ¬ ((c.toNat : Int) = 0) from fun h => h1 (hc 0 h))]
      by_cases h2 : c = 47
      · subst h2; rw [if_pos (show (((47 : UInt8).toNat : Nat) : Int) = 47 from rfl), if_neg (by simp [noneOf])]
      · rw [if_neg (show ¬ ((c.toNat : Int) = 47) from fun h => h2 (hc 47 h)), w1, ih k (i + 1) (by omega) (by omega)]
        simp [noneOf, h1, h2]
theorem name_f (s : ByteArray) (k : Nat) (hk : 66 ≤ k) : PName.shaleref08_Name.f k s = some (if nameB s = true then 0 else 81) := by
  obtain ⟨k, rfl⟩ : ∃ m, k = m + 1 := ⟨k - 1, by omega⟩
  unfold PName.shaleref08_Name.f
  rw [toL]
  have hj : PName.shaleref08_Name.j0 (k + 1) s true = some 81 := by rw [PName.shaleref08_Name.j0, if_pos rfl]
  rw [hj]
  by_cases h1 : (s.size : Int) < 1
  · rw [if_pos h1, if_neg (by unfold nameB; rw [decide_eq_false (by omega)]; simp)]
  · rw [if_neg h1]
    by_cases h2 : (s.size : Int) > 63
    · rw [if_pos h2, if_neg (by unfold nameB; rw [decide_eq_false (by omega)]; simp)]
    · rw [if_neg h2]
      by_cases h3 : s.data.toList = [46]
      · rw [if_pos h3, if_neg (by unfold nameB; rw [h3]; simp)]
      · rw [if_neg h3]
        by_cases h4 : s.data.toList = [46, 46]
        · rw [h4, if_neg (by unfold nameB; rw [h4]; simp)]
          rw [PName.shaleref08_Name.j0, if_pos (by decide)]
        · rw [show (s.data.toList == [46, 46]) = false from by simpa using h4, PName.shaleref08_Name.j0, if_neg (by decide)]
          have := name_l0 s (by omega) s.size k 0 (by omega) (by omega)
          rw [List.drop_zero] at this
          have this : PName.shaleref08_Name.l0 k s 0 = _ := this
          rw [this]
          unfold nameB
          rw [decide_eq_true (by omega), show (s.data.toList != [46]) = true from by simpa using h3, show (s.data.toList != [46, 46]) = true from by simpa using h4]
          simp
theorem name_any (s : ByteArray) (w : World) (hw : Ok w) : Calls Tryd.prog 52 #[.string s] w fun e w' => e = .returned (.int .i64 (if nameB s = true then 0 else 81)) ∧ Fr w w' := by
  refine (PName.shaleref08_Name.calls 66 s _ w (name_f s 66 (Nat.le_refl _))).mono ?_
  rintro e w' ⟨rfl, q⟩
  exact ⟨rfl, Fr.of hw q.below⟩
theorem target_l0 (s : ByteArray) (hs : s.size ≤ 1048575) : ∀ (d k i : Nat), i + d = s.size → d < k → Ptarget.shaleref18_target.l0 k s (i : Int) = some ((s.data.toList.drop i).all fun c => c != 0) := by
  intro d
  induction d with
  | zero =>
    intro k i h hk
    obtain ⟨k, rfl⟩ : ∃ m, k = m + 1 := ⟨k - 1, by omega⟩
    rw [Ptarget.shaleref18_target.l0, if_neg (by omega), List.drop_eq_nil_of_le (by rw [show s.data.toList.length = s.size from rfl]; omega)]
    rfl
  | succ d ih =>
    intro k i h hk
    obtain ⟨k, rfl⟩ : ∃ m, k = m + 1 := ⟨k - 1, by omega⟩
    obtain ⟨c, hd, hb, he⟩ := bt_lt (s := s) (i := i) (by omega)
    have w1 : wrap64 ((i : Int) + 1) = ((i + 1 : Nat) : Int) := by rw [wr64 ⟨by omega, by omega⟩]; omega
    have hc : ∀ n : UInt8, (c.toNat : Int) = (n.toNat : Int) → c = n := fun n h => UInt8.toNat_inj.mp (by omega)
    rw [Ptarget.shaleref18_target.l0, if_pos (by omega), if_pos (by omega), hb, hd]
    by_cases h1 : c = 0
    · subst h1; rw [if_pos (show (((0 : UInt8).toNat : Nat) : Int) = 0 from rfl)]; simp
    · rw [if_neg (show ¬ ((c.toNat : Int) = 0) from fun h => h1 (hc 0 h)), w1, ih k (i + 1) (by omega) (by omega)]
      simp [h1]
theorem target_f (s : ByteArray) (k : Nat) (hk : 130 ≤ k) : Ptarget.shaleref18_target.f k 3 s = some (targetB s) := by
  obtain ⟨k, rfl⟩ : ∃ m, k = m + 1 := ⟨k - 1, by omega⟩
  unfold Ptarget.shaleref18_target.f
  rw [if_pos rfl]
  by_cases h1 : (s.size : Int) < 1
  · rw [if_pos h1, Ptarget.shaleref18_target.j0, if_pos rfl]
    unfold targetB
    rw [decide_eq_false (by omega)]
    rfl
  · rw [if_neg h1, Ptarget.shaleref18_target.j0]
    by_cases h2 : (s.size : Int) > 127
    · rw [if_pos (by simpa using h2)]
      unfold targetB
      rw [decide_eq_false (by omega)]
      rfl
    · rw [if_neg (by simpa using h2)]
      have := target_l0 s (by omega) s.size k 0 (by omega) (by omega)
      rw [List.drop_zero] at this
      have this : Ptarget.shaleref18_target.l0 k s 0 = _ := this
      rw [this]
      unfold targetB
      rw [decide_eq_true (by omega)]
      rfl
theorem target_any (s : ByteArray) (w : World) (hw : Ok w) : Calls Tryd.prog 55 #[.int .i64 3, .string s] w fun e w' => e = .returned (.bool (targetB s)) ∧ Fr w w' := by
  refine (Ptarget.shaleref18_target.calls 130 3 s _ w (target_f s 130 (Nat.le_refl _))).mono ?_
  rintro e w' ⟨rfl, q⟩
  exact ⟨rfl, Fr.of hw q.below⟩
end Go.Proofs.YtlnaeppbhjmocaaDoor
set_option linter.unusedSimpArgs false
set_option linter.unusedVariables false
namespace Go.Proofs.YtlnaeppbhjmocaaDoor
open Go.RowKit Go.Proofs Go.Proofs.YtlnaeppbhjmocaaDoorW.PrintWords Go.Proofs.YtlnaeppbhjmocaaDoorW.PrintMore

theorem bs_ext {a b : ByteArray} (h : a.data.toList = b.data.toList) : a = b := ByteArray.ext (Array.toList_inj.mp h)
/-- the path of the first k names, as the loop builds it -/
def pathSt (ns : List ByteArray) (k : Nat) : ByteArray := ⟨((ns.take k).flatMap fun n => slash :: n.data.toList).toArray⟩
theorem pathSt_zero (ns : List ByteArray) : pathSt ns 0 = ⟨#[]⟩ := by simp [pathSt]
theorem pathSt_succ (ns : List ByteArray) (k : Nat) (h : k < ns.length) : pathSt ns k ++ ⟨#[47]⟩ ++ ns[k] = pathSt ns (k + 1) := by
  have hsp : ns.take (k + 1) = ns.take k ++ [ns[k]] := (List.take_append_getElem (by omega)).symm
  refine bs_ext ?_
  unfold pathSt
  rw [hsp, List.flatMap_append, ByteArray.data_append, ByteArray.data_append]
  simp [slash]
theorem pathSt_last (ns : List ByteArray) (k : Nat) (nm : ByteArray) : pathSt ns k ++ ⟨#[47]⟩ ++ nm = pathOf (ns.take k ++ [nm]) := by
  refine bs_ext ?_
  unfold pathSt pathOf
  rw [if_neg (by simp), List.flatMap_append, ByteArray.data_append, ByteArray.data_append]
  simp [slash]
theorem pathSt_size (ns : List ByteArray) (k : Nat) : (pathSt ns k).size ≤ (pathOf ns).size := by
  have h1 : (pathSt ns k).size = ((ns.take k).flatMap fun n => slash :: n.data.toList).length := by unfold pathSt; exact List.size_toArray ..
  by_cases he : ns = []
  · subst he; rw [h1]; simp
  · have h2 : (pathOf ns).size = (ns.flatMap fun n => slash :: n.data.toList).length := by unfold pathOf; rw [if_neg he]; exact List.size_toArray ..
    rw [h1, h2]
    conv => rhs; rw [← List.take_append_drop k ns]
    rw [List.flatMap_append, List.length_append]; omega
theorem orFail_ok {o : Er} {b : Bool} {j : Nat} (h : orFail o b = .ok j) : o = .ok j ∧ b = false := by
  cases o with
  | error e => simp [orFail] at h
  | ok i => cases b <;> simp [orFail] at h ⊢; exact h
theorem mostX_rg {ahead : List ByteArray} {dir : Bool} (h : dir = true ∨ ahead ≠ []) : 0 ≤ mostX ahead dir ∧ mostX ahead dir ≤ 63 := by
  have : dir = true ∨ 0 < ahead.length := h.imp id (fun h => List.length_pos_iff.mpr h)
  unfold mostX
  cases dir <;> simp at this ⊢ <;> split <;> omega
/-- a leaf read well: its path is that of good names -/
theorem leafX_good {gt : ByteArray → ByteArray → Bool} {L : List Int} {dry : Bool} {ahead : List ByteArray} {dir : Bool} {o : Er} {lf : Lf} {ns : List ByteArray} {j : Nat} (hb : bytesOk L)
    (ha : ∀ n ∈ ahead, nameB n = true) (hne : dir = true ∨ ahead ≠ []) (h : leafX gt L dry ahead dir o = ((lf, ns), .ok j)) :
    lf.path = pathOf ns ∧ (∀ n ∈ ns, nameB n = true) ∧ ns.length ≤ 64 ∧ (pathOf ns).size ≤ 1023 ∧ ns ≠ [] := by
  unfold leafX at h
  have hk := numX_rg (L := L) (low := 0) (high := mostX ahead dir) (.inl (by omega)) (mostX_rg hne).1 1 o hb
  dsimp only at h
  obtain ⟨k, hkk⟩ : ∃ k, numX L 1 0 (mostX ahead dir) o = k := ⟨_, rfl⟩
  rw [hkk] at h hk
  have hm := (mostX_rg hne).2
  obtain ⟨st, hst⟩ : ∃ st, (numX L 8 0 18446744073709551615 (numX L 2 0 4095 (numX L 1 1 3 k.2).2).2) = st := ⟨_, rfl⟩
  rw [hst] at h
  obtain ⟨nm, hnm⟩ : ∃ nm, takeX L (numX L 1 1 63 st.2).1.toNat (numX L 1 1 63 st.2).2 = nm := ⟨_, rfl⟩
  rw [hnm] at h
  obtain ⟨nb, no⟩ := nm
  cases no with
  | error e => simp at h
  | ok i =>
    dsimp only at h
    split at h
    · simp at h
    · rename_i hc
      have hn1 : nameB (strOfNums nb) = true := by
        cases hq : nameB (strOfNums nb) with
        | true => rfl
        | false => exact absurd (.inl hq) hc
      have hn2 : (pathOf (ahead.take k.1.toNat ++ [strOfNums nb])).size ≤ 1023 := by
        apply Nat.le_of_not_lt
        intro hq
        exact hc (.inr (.inr hq))
      have key : ∀ (P : ByteArray) (N : List ByteArray), P = pathOf (ahead.take k.1.toNat ++ [strOfNums nb]) → N = ahead.take k.1.toNat ++ [strOfNums nb] →
          P = pathOf N ∧ (∀ n ∈ N, nameB n = true) ∧ N.length ≤ 64 ∧ (pathOf N).size ≤ 1023 ∧ N ≠ [] := by
        rintro P N rfl rfl
        refine ⟨rfl, fun n hn => ?_, ?_, hn2, by simp⟩
        · rcases List.mem_append.mp hn with h1 | h1
          · exact ha n (List.mem_of_mem_take h1)
          · rw [List.mem_singleton.mp h1]; exact hn1
        · rw [List.length_append, List.length_take]
          simp only [List.length_cons, List.length_nil]
          omega
      split at h
      · injection h with h1 h2
        injection h1 with h1 h3
        subst h1 h3
        exact key _ _ rfl rfl
      · split at h
        · injection h with h1 h2
          injection h1 with h1 h3
          subst h1 h3
          exact key _ _ rfl rfl
        · injection h with h1 h2
          injection h1 with h1 h3
          subst h1 h3
          exact key _ _ rfl rfl
/-- a leaf behind its first numbers -/
def leafE (gt : ByteArray → ByteArray → Bool) (L : List Int) (dry : Bool) (ahead : List ByteArray) (k : Nat) (ty mo st : Int) (nb : List Int) : Er → (Lf × List ByteArray) × Er
  | .error e => ((⟨⟨#[]⟩, ty, mo, st, [], ⟨#[]⟩⟩, []), .error e)
  | .ok j =>
    let ns := ahead.take k ++ [strOfNums nb]
    if nameB (strOfNums nb) = false ∨ (k < ahead.length ∧ gt (strOfNums nb) (ahead.getD k ⟨#[]⟩) = false) ∨ 1023 < (pathOf ns).size then ((⟨pathOf ns, ty, mo, st, [], ⟨#[]⟩⟩, ns), .error 191)
    else if ty = 1 then
      let n := numX L 4 0 16777216 (.ok j)
      let d := dataR L dry n.1 n.2
      ((⟨pathOf ns, ty, mo, st, d.1, ⟨#[]⟩⟩, ns), d.2)
    else if ty = 3 then
      let n := numX L 1 1 127 (.ok j)
      let t := takeX L n.1.toNat n.2
      ((⟨pathOf ns, ty, mo, st, [], strOfNums t.1⟩, ns), orFail t.2 (!targetB (strOfNums t.1)))
    else ((⟨pathOf ns, ty, mo, st, [], ⟨#[]⟩⟩, ns), .ok j)
end Go.Proofs.YtlnaeppbhjmocaaDoor
set_option linter.unusedSimpArgs false
set_option linter.unusedVariables false
namespace Go.Proofs.YtlnaeppbhjmocaaDoor
open Go.RowKit Go.Proofs

def RXB (w : World) (g : Nat) (A : Option Addr) (c : Nat) (L : List Int) (i : Nat) (e told : Int) (dry : Bool) : Prop := w.heap[g]? = some (.cells #[.slice A L.length c, .int .i64 i, .int .i64 e, .int .i64 told, .bool dry] 58 (0, 0))
/-- the reader's block: where it stands, or its error -/
def RX (w : World) (g : Nat) (A : Option Addr) (c : Nat) (L : List Int) (o : Er) (told : Int) (dry : Bool) : Prop := ∃ i, i ≤ L.length ∧ (∀ j, o = .ok j → i = j) ∧ (∀ e, o = .error e → e ≠ 0) ∧ RXB w g A c L i o.num told dry
theorem RX.fr {w w' : World} {g : Nat} {A : Option Addr} {c : Nat} {L : List Int} {o : Er} {told : Int} {dry : Bool} (h : RX w g A c L o told dry) (q : Fr w w') : RX w' g A c L o told dry := by
  obtain ⟨i, h1, h2, h3, h4⟩ := h
  exact ⟨i, h1, h2, h3, q.heap h4⟩
theorem RX.grown {w w' : World} {g : Nat} {A : Option Addr} {c : Nat} {L : List Int} {o : Er} {told : Int} {dry : Bool} {r : Option Nat} (h : RX w g A c L o told dry) (q : w.grownBy w' r) (hne : some g ≠ r) : RX w' g A c L o told dry := by
  obtain ⟨i, h1, h2, h3, h4⟩ := h
  exact ⟨i, h1, h2, h3, grown_blk' q h4 hne⟩

set_option maxHeartbeats 3200000 in
set_option maxRecDepth 100000 in
theorem fail_go (g : Nat) (A : Option Addr) (c : Nat) (L : List Int) (i : Nat) (e told : Int) (dry : Bool) (code : Int) (w : World) (H : RXB w g A c L i e told dry) :
    Calls Tryd.prog 53 #[.pointer (some ⟨g, 0, none⟩), .int .i64 code] w fun x w' => x = .returned (.tuple #[]) ∧ w.grownBy w' (some g) ∧ RXB w' g A c L i (if e = 0 then code else e) told dry := by
  unfold RXB at *
  obtain ⟨c0, c1, c2, c3, c4⟩ := blk5 H
  by_cases he : e = 0
  · subst he
    have z2 := unfroz H 2
    obtain ⟨wb, hwb, HB, gr⟩ := set_grown H 2 (.int .i64 code)
    simp only [List.setIfInBounds_toArray, List.set_cons_zero, List.set_cons_succ] at HB
    rw [if_pos rfl]
    go_enter Tryd.func53, Tryd.ntmps53
    go_wp2
    go_end0
    exact ⟨rfl, gr, HB⟩
  · have d1 : ((e : Int) == 0) = false := by simpa using he
    rw [if_neg he]
    clear he
    go_enter Tryd.func53, Tryd.ntmps53
    go_wp2
    go_end0
    exact ⟨rfl, grown_refl w _, H⟩

set_option maxHeartbeats 3200000 in
set_option maxRecDepth 100000 in
theorem take_yes (g gb ob c : Nat) (L : List Int) (i n : Nat) (told : Int) (dry : Bool) (w : World) (hw : Ok w) (H : RXB w g (some ⟨gb, ob, none⟩) c L i 0 told dry) (hi : i + n ≤ L.length) (hc : L.length ≤ c) (hL : L.length ≤ 1099511627776) (hg : 4 ≤ g) :
    Calls Tryd.prog 33 #[.pointer (some ⟨g, 0, none⟩), .int .i64 n] w fun e w' => ∃ o' c', e = .returned (.slice (some ⟨gb, o', none⟩) n c') ∧ n ≤ c' ∧ (n = 0 ∨ o' = ob + i) ∧ w.grownBy w' (some g) ∧ RXB w' g (some ⟨gb, ob, none⟩) c L (i + n) 0 told dry := by
  unfold RXB at *
  have f := Fr.refl hw
  obtain ⟨c0, c1, c2, c3, c4⟩ := blk5 H
  have w1 : IntKind.i64.wrap ((L.length : Int) - (i : Int)) = (L.length : Int) - (i : Int) := IntWalk.i64_in _ ⟨by omega, by omega⟩
  have d1 : decide (((L.length : Int) - (i : Int)) < (n : Int)) = false := decide_eq_false (by omega)
  go_enter Tryd.func33, Tryd.ntmps33
  go_wp2
  have r_c0 := cell_regrown c0
  have r_c1 := cell_regrown c1
  have r_c2 := cell_regrown c2
  refine wp_region_quiet_below (by kernel_rfl) (by kernel_rfl) ?_
  repeat (go_big_quiet_step (fail))
  refine wpQuiet_nil ?_
  intro wq hwq
  have q := Fr.regrown f.ok hwq
  clear hwq r_c0 r_c1 r_c2
  replace c0 := q.cell c0
  replace c1 := q.cell c1
  replace c2 := q.cell c2
  replace H := q.heap H
  replace f := f.trans q
  clear q
  clear w1 d1
  have w2 : IntKind.i64.wrap ((i : Int) + (n : Int)) = (i : Int) + (n : Int) := IntWalk.i64_in _ ⟨by omega, by omega⟩
  have w3 : IntKind.i64.wrap ((i : Int) + (n : Int) - (n : Int)) = (i : Int) := by rw [IntWalk.i64_in _ ⟨by omega, by omega⟩]; omega
  have z1 := unfroz H 1
  obtain ⟨wb, hwb, HB, gr⟩ := set_grown H 1 (.int .i64 ((i : Int) + (n : Int)))
  simp only [List.setIfInBounds_toArray, List.set_cons_zero, List.set_cons_succ] at HB
  obtain ⟨e0, e1, e2, e3, e4⟩ := blk5 HB
  have h1 : (i : Int) ≤ (i : Int) + (n : Int) := by omega
  have h2 : (i : Int) + (n : Int) ≤ (c : Int) := by omega
  have h3 : (0 : Int) ≤ (i : Int) := by omega
  have gr2 := grown_trans (fr_grown f (some g)) gr
  have f2 := Fr.refl (hw.grown hg gr2)
  go_wp2
  clear w2 z1 hwb c0 c1 c2 c3 c4
  have r_e0 := cell_regrown e0
  have r_e1 := cell_regrown e1
  refine wp_region_quiet_below (by kernel_rfl) (by kernel_rfl) ?_
  repeat (go_big_quiet_step (fail))
  refine wpQuiet_nil ?_
  intro wq hwq
  have q := Fr.regrown f2.ok hwq
  clear hwq r_e0 r_e1
  replace e0 := q.cell e0
  replace e1 := q.cell e1
  replace HB := q.heap HB
  replace f2 := f2.trans q
  clear q
  have HE := Lib.hid (And.intro (grown_trans gr2 (fr_grown f2 (some g))) HB)
  clear gr gr2 f f2 HB
  by_cases hci : c = i
  · have hci2 : (c : Int) = (i : Int) := by omega
    go_wp2
    all_goals (go_ret; exact ⟨_, _, rfl, by omega, .inl (by omega), HE.out.1, (by have := HE.out.2; rw [hci] at this; first | exact this | (rw [Int.natCast_add]; exact this))⟩)
  · have hci2 : ¬ (c : Int) = (i : Int) := by omega
    go_wp2
    go_ret
    exact ⟨_, _, rfl, by omega, .inr rfl, HE.out.1, HE.out.2⟩
set_option maxHeartbeats 3200000 in
set_option maxRecDepth 100000 in
theorem take_no (g : Nat) (A : Option Addr) (c : Nat) (L : List Int) (i n : Nat) (e told : Int) (dry : Bool) (w : World) (hw : Ok w) (H : RXB w g A c L i e told dry) (hi : i ≤ L.length) (hn : n ≤ 1099511627776) (hno : e ≠ 0 ∨ L.length < i + n) (hL : L.length ≤ 1099511627776) :
    Calls Tryd.prog 33 #[.pointer (some ⟨g, 0, none⟩), .int .i64 n] w fun x w' => x = .returned (.slice none 0 0) ∧ w.grownBy w' (some g) ∧ RXB w' g A c L i (if e = 0 then 190 else e) told dry := by
  have f := Fr.refl hw
  have HFl := Lib.hid (fun W (f : Fr w W) => fail_go g A c L i e told dry 190 W (f.heap H))
  unfold RXB at H
  obtain ⟨c0, c1, c2, c3, c4⟩ := blk5 H
  have w1 : IntKind.i64.wrap ((L.length : Int) - (i : Int)) = (L.length : Int) - (i : Int) := IntWalk.i64_in _ ⟨by omega, by omega⟩
  by_cases he : e = 0
  · have d1 : decide (((L.length : Int) - (i : Int)) < (n : Int)) = true := decide_eq_true (by rcases hno with h | h; exact absurd he h; omega)
    subst he
    clear hno
    go_enter Tryd.func33, Tryd.ntmps33
    go_wp2
    have r_c0 := cell_regrown c0
    have r_c1 := cell_regrown c1
    have r_c2 := cell_regrown c2
    refine wp_region_quiet_below (by kernel_rfl) (by kernel_rfl) ?_
    repeat (go_big_quiet_step (fail))
    refine wpQuiet_nil ?_
    intro wq hwq
    have q := Fr.regrown f.ok hwq
    clear hwq r_c0 r_c1 r_c2
    replace c0 := q.cell c0
    replace c1 := q.cell c1
    replace c2 := q.cell c2
    replace H := q.heap H
    replace f := f.trans q
    clear q
    go_wp2_with (go_at_call 53; refine (HFl.out _ f).mono ?_; rintro x wx ⟨rfl, gr, HB⟩; (have HE := Lib.hid (And.intro (grown_trans (fr_grown f (some g)) gr) HB)); clear gr HB)
    go_ret
    exact ⟨rfl, HE.out⟩
  · have d2 : ((e : Int) != 0) = true := by simpa using he
    have d2' : ((e : Int) == 0) = false := by simpa using he
    clear hno
    go_enter Tryd.func33, Tryd.ntmps33
    go_wp2
    have r_c0 := cell_regrown c0
    have r_c1 := cell_regrown c1
    have r_c2 := cell_regrown c2
    refine wp_region_quiet_below (by kernel_rfl) (by kernel_rfl) ?_
    repeat (go_big_quiet_step (fail))
    refine wpQuiet_nil ?_
    intro wq hwq
    have q := Fr.regrown f.ok hwq
    clear hwq r_c0 r_c1 r_c2
    replace c0 := q.cell c0
    replace c1 := q.cell c1
    replace c2 := q.cell c2
    replace H := q.heap H
    replace f := f.trans q
    clear q
    go_wp2_with (go_at_call 53; refine (HFl.out _ f).mono ?_; rintro x wx ⟨rfl, gr, HB⟩; (have HE := Lib.hid (And.intro (grown_trans (fr_grown f (some g)) gr) HB)); clear gr HB)
    go_ret
    exact ⟨rfl, by have h9 := HE.out; rw [if_neg he] at h9; exact h9⟩
theorem takeRow (g gb ob c : Nat) (L : List Int) (o : Er) (n : Nat) (told : Int) (dry : Bool) (w : World) (hw : Ok w) (H : RX w g (some ⟨gb, ob, none⟩) c L o told dry) (hA : BytesAt w (some ⟨gb, ob, none⟩) L) (hgb : gb ≠ g) (hn : n ≤ 1099511627776) (hc : L.length ≤ c) (hL : L.length ≤ 1073741824) (hg : 4 ≤ g) :
    Calls Tryd.prog 33 #[.pointer (some ⟨g, 0, none⟩), .int .i64 n] w fun e w' => ∃ B d, e = .returned (.slice B (takeX L n o).1.length d) ∧ (takeX L n o).1.length ≤ d ∧ (B = none → d = 0) ∧ (∀ a, B = some a → a.block = gb) ∧ BytesAt w' B (takeX L n o).1 ∧ w.grownBy w' (some g) ∧ RX w' g (some ⟨gb, ob, none⟩) c L (takeX L n o).2 told dry := by
  obtain ⟨i, hi, hoi, hoe, HB⟩ := H
  cases o with
  | error e =>
    refine (take_no g _ c L i n e told dry w hw HB hi hn (.inl (hoe e rfl)) (by omega)).mono ?_
    rintro x w' ⟨rfl, gr, HR⟩
    rw [if_neg (hoe e rfl)] at HR
    exact ⟨none, 0, rfl, Nat.zero_le _, fun _ => rfl, (fun a e => by cases e), .inl rfl, gr, i, hi, fun j e => (by cases e), hoe, HR⟩
  | ok j =>
    obtain rfl := hoi j rfl
    by_cases hle : i + n ≤ L.length
    · have hr : takeX L n (.ok i) = ((L.drop i).take n, .ok (i + n)) := by simp only [takeX, if_pos hle]
      have hl : ((L.drop i).take n).length = n := by rw [List.length_take, List.length_drop]; omega
      rw [hr]
      refine (take_yes g gb ob c L i n told dry w hw HB hle hc (by omega) hg).mono ?_
      rintro e w' ⟨o', d, rfl, hd, ho', gr, HR⟩
      refine ⟨some ⟨gb, o', none⟩, d, by rw [hl], by rw [hl]; exact hd, (fun e => by cases e), (fun a e => by injection e with e; subst e; rfl), ?_, gr, i + n, hle, fun j e => (by injection e), fun e h => (by cases h), HR⟩
      have hA' := hA.grown gr (fun a e => by injection e with e; subst e; intro e; injection e with e; exact hgb e)
      rcases ho' with h0 | h0
      · subst h0; left; simp
      · subst h0; exact hA'.sub i n
    · have hr : takeX L n (.ok i) = ([], .error 190) := by simp only [takeX, if_neg hle]
      rw [hr]
      refine (take_no g _ c L i n 0 told dry w hw HB hi hn (.inr (by omega)) (by omega)).mono ?_
      rintro x w' ⟨rfl, gr, HR⟩
      rw [if_pos rfl] at HR
      exact ⟨none, 0, rfl, Nat.zero_le _, fun _ => rfl, (fun a e => by cases e), .inl rfl, gr, i, hi, fun j e => (by cases e), fun e h => (by injection h with h; omega), HR⟩

set_option maxHeartbeats 6400000 in
set_option maxRecDepth 100000 in
theorem numRow (g gb ob c : Nat) (L : List Int) (o : Er) (n : Nat) (low high : Int) (told : Int) (dry : Bool) (w : World) (hw : Ok w) (H : RX w g (some ⟨gb, ob, none⟩) c L o told dry) (hA : BytesAt w (some ⟨gb, ob, none⟩) L) (hgb : gb ≠ g) (hb : bytesOk L) (hn : 1 ≤ n ∧ n ≤ 8) (hlo : 0 ≤ low) (hc : L.length ≤ c) (hL : L.length ≤ 1073741824) (hg : 4 ≤ g) :
    Calls Tryd.prog 32 #[.pointer (some ⟨g, 0, none⟩), .int .i64 n, .int .u64 low, .int .u64 high] w fun e w' => e = .returned (.int .u64 (numX L n low high o).1) ∧ w.grownBy w' (some g) ∧ RX w' g (some ⟨gb, ob, none⟩) c L (numX L n low high o).2 told dry := by
  have HT := Lib.hid (takeRow g gb ob c L o n told dry w hw H hA hgb (by omega) hc hL hg)
  have hbk := takeX_ok hb n o
  have hln : ∀ bs j, takeX L n o = (bs, .ok j) → bs.length = n := fun bs j h => (takeX_len h).1
  have hnx : ∀ bs o1, takeX L n o = (bs, o1) → numX L n low high o = match o1 with | .error e => (0, .error e) | .ok j => if low ≤ leV bs ∧ leV bs ≤ high then (leV bs, .ok j) else (0, .error 191) := fun bs o1 h => by
    unfold numX; rw [h]; cases o1 <;> rfl
  obtain ⟨⟨bs, o1⟩, e1⟩ : ∃ p, takeX L n o = p := ⟨_, rfl⟩
  rw [e1] at HT hbk
  dsimp only at HT hbk
  have hN := hnx bs o1 e1
  obtain ⟨PP, hPP⟩ : ∃ P, numX L n low high o = P := ⟨_, rfl⟩
  rw [hPP] at hN ⊢
  have HPP := Lib.hid hN
  have HLn := Lib.hid (fun j (h : o1 = .ok j) => hln bs j (by rw [e1, h]))
  clear hN hPP hnx hln e1 H hA
  have hb8 : bs.length ≤ 8 := by omega
  have HU := Lib.hid (fun k h => u64_256 hbk.1 hb8 (k := k) h)
  have HV := leV_u64 hbk.1 hb8
  have HFl := Lib.hid (fun W i e (H : RXB W g (some ⟨gb, ob, none⟩) c L i e told dry) => fail_go g (some ⟨gb, ob, none⟩) c L i e told dry 191 W H)
  go_enter Tryd.func32, Tryd.ntmps32
  go_wp2_with (go_at_call 33; refine HT.out.mono ?_; rintro e wx ⟨B, d, rfl, hd, _, _, hB, gr, HR⟩)
  have HC : Hid (∀ j (h : j < bs.length), ∃ a, B = some a ∧ wx.cell? (a.add j) = some (.int .u8 bs[j])) := Lib.hid (fun j hj => by
    rcases hB with h | ⟨g', o', rfl, _, h⟩
    · rw [h] at hj; simp at hj
    · exact ⟨_, rfl, by rw [Lib.add_plain]; exact h j _ (List.getElem?_eq_getElem hj)⟩)
  have ws : IntKind.i64.wrap ((bs.length : Int) - 1) = (bs.length : Int) - 1 := IntWalk.i64_in _ ⟨by omega, by omega⟩
  go_loopg [10, 11] bs.length (fun k v10 v11 wc => k ≤ bs.length ∧ v10 = .int .u64 (leV (bs.drop k)) ∧ v11 = .int .i64 ((k : Int) - 1) ∧ wc = wx)
  case atStart => exact ⟨Nat.le_refl _, by rw [List.drop_length]; rfl, rfl, rfl⟩
  case round =>
    obtain ⟨hk, rfl, rfl, rfl⟩ := hrel
    cases gk with
    | zero =>
      have d4 : decide ((0 : Int) ≤ ((0 : Nat) : Int) - 1) = false := decide_eq_false (by omega)
      rw [List.drop_zero]
      obtain ⟨i, hi, hoi, hoe, HRB⟩ := HR
      cases o1 with
      | error e =>
        have he := hoe e rfl
        have d1 : ((e : Int) == 0) = false := by simpa using he
        have d2 : ((e : Int) != 0) = true := by simpa using he
        have HF := Lib.hid (And.intro hoe (And.intro HRB gr))
        unfold RXB at HRB
        obtain ⟨c0, c1, c2, c3, c4⟩ := blk5 HRB
        simp only [Er.num] at c2
        clear he HRB gr hoe hoi
        go_wp2
        go_ret
        have hP := HPP.out
        subst hP
        exact ⟨rfl, HF.out.2.2, i, hi, fun j e => (by cases e), HF.out.1, HF.out.2.1⟩
      | ok j =>
        obtain rfl := hoi j rfl
        by_cases hlow : low ≤ leV bs
        · have d5 : decide (leV bs < low) = false := decide_eq_false (by omega)
          by_cases hhigh : leV bs ≤ high
          · have d6 : decide (high < leV bs) = false := decide_eq_false (by omega)
            have HI := Lib.hid (And.intro hlow hhigh)
            have HF := Lib.hid (And.intro HRB gr)
            unfold RXB at HRB
            obtain ⟨c0, c1, c2, c3, c4⟩ := blk5 HRB
            simp only [Er.num] at c2
            clear HRB gr hoe hoi hlow hhigh
            go_wp2
            go_ret
            have hP := HPP.out
            rw [if_pos HI.out] at hP
            subst hP
            exact ⟨rfl, HF.out.2, i, hi, fun j e => (by injection e), fun e h => (by cases h), HF.out.1⟩
          · have d6 : decide (high < leV bs) = true := decide_eq_true (by omega)
            have HI : Hid (¬ (low ≤ leV bs ∧ leV bs ≤ high)) := Lib.hid (fun h => hhigh h.2)
            have HF := Lib.hid (And.intro HRB gr)
            unfold RXB at HRB
            obtain ⟨c0, c1, c2, c3, c4⟩ := blk5 HRB
            simp only [Er.num] at c2
            clear HRB gr hoe hoi hlow hhigh
            go_wp2_with (go_at_call 53; refine (HFl.out _ i 0 HF.out.1).mono ?_; rintro x wy ⟨rfl, gr2, HY⟩; rw [if_pos rfl] at HY; (have HF2 := Lib.hid (And.intro HY gr2)); clear gr2; unfold RXB at HY; obtain ⟨c0, c1, c2, c3, c4⟩ := blk5 HY; clear HY)
            go_ret
            have hP := HPP.out
            rw [if_neg HI.out] at hP
            subst hP
            exact ⟨rfl, grown_trans HF.out.2 HF2.out.2, i, hi, fun j e => (by cases e), fun e h => (by injection h with h; omega), HF2.out.1⟩
        · have d5 : decide (leV bs < low) = true := decide_eq_true (by omega)
          have HI : Hid (¬ (low ≤ leV bs ∧ leV bs ≤ high)) := Lib.hid (fun h => hlow h.1)
          have HF := Lib.hid (And.intro HRB gr)
          unfold RXB at HRB
          obtain ⟨c0, c1, c2, c3, c4⟩ := blk5 HRB
          simp only [Er.num] at c2
          clear HRB gr hoe hoi hlow
          go_wp2_with (go_at_call 53; refine (HFl.out _ i 0 HF.out.1).mono ?_; rintro x wy ⟨rfl, gr2, HY⟩; rw [if_pos rfl] at HY; (have HF2 := Lib.hid (And.intro HY gr2)); clear gr2; unfold RXB at HY; obtain ⟨c0, c1, c2, c3, c4⟩ := blk5 HY; clear HY)
          go_ret
          have hP := HPP.out
          rw [if_neg HI.out] at hP
          subst hP
          exact ⟨rfl, grown_trans HF.out.2 HF2.out.2, i, hi, fun j e => (by cases e), fun e h => (by injection h with h; omega), HF2.out.1⟩
    | succ k =>
      have d4 : decide ((0 : Int) ≤ ((k + 1 : Nat) : Int) - 1) = true := decide_eq_true (by omega)
      obtain ⟨u1, u2, u3⟩ := HU.out k (by omega)
      obtain ⟨a, rfl, e0⟩ := HC.out k (by omega)
      have hk1 : ((k + 1 : Nat) : Int) - 1 = (k : Int) := by omega
      rw [hk1] at d4
      rw [hk1]
      have wk : IntKind.i64.wrap ((k : Int) - 1) = (k : Int) - 1 := IntWalk.i64_in _ ⟨by omega, by omega⟩
      have hkn : (k : Int) < (bs.length : Int) := by omega
      have hk0 : (0 : Int) ≤ (k : Int) := by omega
      go_wp2
      go_roundg k
      case measure => omega
      case rel => exact ⟨by omega, rfl, rfl, rfl⟩
end Go.Proofs.YtlnaeppbhjmocaaDoor
set_option linter.unusedSimpArgs false
set_option linter.unusedVariables false
namespace Go.Proofs.YtlnaeppbhjmocaaDoor
open Go.RowKit Go.Proofs Go.Proofs.YtlnaeppbhjmocaaDoorW.PrintWords Go.Proofs.YtlnaeppbhjmocaaDoorW.PrintMore

theorem rd_nat (b : List Int) (i : Nat) : rd b (i : Int) = b.getD i 0 := by unfold rd; rw [Int.toNat_natCast]
theorem zeros_l0 (b : List Int) (hL : b.length ≤ 1073741824) : ∀ (d k i x : Nat), i + x + d = b.length → d < k → Pfilled.shaleref18_zeros.l0 k b (i : Int) (x : Int) = some (((x + lead0 (b.drop (i + x)) : Nat)) : Int) := by
  intro d
  induction d with
  | zero =>
    intro k i x h hk
    obtain ⟨k, rfl⟩ : ∃ m, k = m + 1 := ⟨k - 1, by omega⟩
    simp only [Pfilled.shaleref18_zeros.l0]
    rw [wr64 ⟨by omega, by omega⟩, if_neg (by omega), List.drop_eq_nil_of_le (by omega)]
    rfl
  | succ d ih =>
    intro k i x h hk
    obtain ⟨k, rfl⟩ : ∃ m, k = m + 1 := ⟨k - 1, by omega⟩
    simp only [Pfilled.shaleref18_zeros.l0]
    have e1 : wrap64 ((i : Int) + (x : Int)) = ((i + x : Nat) : Int) := by rw [wr64 ⟨by omega, by omega⟩]; omega
    have e2 : wrap64 ((x : Int) + 1) = ((x + 1 : Nat) : Int) := by rw [wr64 ⟨by omega, by omega⟩]; omega
    rw [e1, if_pos (by omega), if_pos (by omega), rd_nat, e2, drop_getD (show i + x < b.length by omega)]
    by_cases hz : b.getD (i + x) 0 = 0
    · rw [if_pos hz, ih k i (x + 1) (by omega) (by omega)]
      simp only [lead0]
      rw [if_pos hz, show i + (x + 1) = i + x + 1 by omega]
      congr 1; omega
    · rw [if_neg hz]
      simp only [lead0]
      rw [if_neg hz]; rfl
theorem zeros_f (b : List Int) (hL : b.length ≤ 1073741824) (k i : Nat) (hi : i ≤ b.length) (hk : b.length - i < k) : Pfilled.shaleref18_zeros.f k b (i : Int) = some ((lead0 (b.drop i) : Nat) : Int) := by
  have := zeros_l0 b hL (b.length - i) k i 0 (by omega) hk
  unfold Pfilled.shaleref18_zeros.f
  simpa using this
def finB (b : List Int) (behind more : Bool) : Bool := !b.isEmpty && !(behind && b.headD 1 == 0) && !(more && b.getLastD 1 == 0)
theorem filledB_eq (b : List Int) (behind more : Bool) : filledB b behind more = (no16 b && finB b behind more) := by
  unfold filledB finB; simp only [Bool.and_assoc]
theorem last_getD (a : Int) (r : List Int) : (a :: r).getD r.length 0 = (a :: r).getLastD 1 := by
  simp [List.getD, List.getLastD, List.getLast_eq_getElem]
theorem filled_last (b : List Int) (hL : b.length ≤ 1073741824) (x1 x2 : Bool) (k : Nat) : Pfilled.shaleref18_filled.l0 (k + 1) b x1 x2 (b.length : Int) = some (finB b x1 x2) := by
  simp only [Pfilled.shaleref18_filled.l0]
  rw [if_neg (by omega)]
  cases b with
  | nil => simp [finB]
  | cons a r =>
    have hl : ((a :: r).length : Int) = (r.length : Int) + 1 := by simp
    have e1 : wrap64 (((a :: r).length : Int) - 1) = (r.length : Int) := by rw [hl, wr64 ⟨by simp at hL; omega, by simp at hL; omega⟩]; omega
    have e2 : rd (a :: r) 0 = a := by unfold rd; rfl
    have h1 : ((a :: r).length : Int) > 0 := by omega
    have h2 : (0 : Int) < ((a :: r).length : Int) := by omega
    have h3 : (0 : Int) ≤ (r.length : Int) := by omega
    have h4 : (r.length : Int) < ((a :: r).length : Int) := by omega
    simp only [e1, if_pos h1, if_pos h2, if_pos h3, if_pos h4, rd_nat, e2, last_getD]
    unfold finB
    generalize (a :: r).getLastD 1 = z
    by_cases ha : a = 0 <;> cases x1 <;> cases x2 <;> simp [ha]
theorem filled_from (b : List Int) (hL : b.length ≤ 1073741824) (x1 x2 : Bool) : ∀ (d k i : Nat), i + d = b.length → d + 1 < k → Pfilled.shaleref18_filled.l0 k b x1 x2 (i : Int) = some (no16 (b.drop i) && finB b x1 x2) := by
  intro d
  induction d with
  | zero =>
    intro k i h hk
    obtain ⟨k, rfl⟩ : ∃ m, k = m + 1 := ⟨k - 1, by omega⟩
    obtain rfl : i = b.length := by omega
    rw [filled_last b hL, List.drop_length]
    rfl
  | succ d ih =>
    intro k i h hk
    obtain ⟨k, rfl⟩ : ∃ m, k = m + 1 := ⟨k - 1, by omega⟩
    have e2 : wrap64 ((i : Int) + 1) = ((i + 1 : Nat) : Int) := by rw [wr64 ⟨by omega, by omega⟩]; omega
    simp only [Pfilled.shaleref18_filled.l0]
    rw [if_pos (by omega), zeros_f b hL k i (by omega) (by omega)]
    simp only [Option.bind_some]
    have hn : no16 (b.drop i) = (decide (lead0 (b.drop i) < 16) && no16 (b.drop (i + 1))) := by
      rw [drop_getD (show i < b.length by omega)]; rfl
    rw [hn]
    by_cases h16 : lead0 (b.drop i) < 16
    · rw [if_neg (by omega), e2, ih k (i + 1) (by omega) (by omega), decide_eq_true h16]
      rfl
    · rw [if_pos (by omega), decide_eq_false h16]
      rfl
theorem filled_any (A : Option Addr) (c : Nat) (b : List Int) (x1 x2 : Bool) (w : World) (hw : Ok w) (hA : BytesAt w A b) (hc : b.length ≤ c) (hL : b.length ≤ 1073741824) :
    Calls Tryd.prog 68 #[.slice A b.length c, .bool x1, .bool x2] w fun e w' => e = .returned (.bool (filledB b x1 x2)) ∧ Fr w w' := by
  have hf : Pfilled.shaleref18_filled.f (b.length + 2) b x1 x2 = some (filledB b x1 x2) := by
    have := filled_from b hL x1 x2 b.length (b.length + 2) 0 (by omega) (by omega)
    unfold Pfilled.shaleref18_filled.f
    rw [filledB_eq]
    simpa using this
  exact (Pfilled.shaleref18_filled.calls _ A c b x1 x2 _ w (hA.toC (by omega)) hc hf).mono fun e w' ⟨he, hd⟩ => ⟨he, Fr.of hw hd.below⟩
end Go.Proofs.YtlnaeppbhjmocaaDoor
