/- Small lemmas for the walks over leaves: a block of six cells written whole; a row of names that a callee made. No conditions. -/
import Derived.Test.YtlnaeppbhjmocaaDoorU5
set_option linter.unusedSectionVars false
set_option linter.unnecessarySimpa false
set_option linter.unusedSimpArgs false
set_option linter.unusedVariables false
set_option linter.unusedSimpArgs false
set_option linter.unusedVariables false
namespace Go.Proofs.YtlnaeppbhjmocaaDoor
open Go.RowKit Go.Proofs Go.Proofs.YtlnaeppbhjmocaaDoorW.PrintWords Go.Proofs.YtlnaeppbhjmocaaDoorW.PrintMore

theorem name_l0 (s : ByteArray) (hs : s.size ≤ 1048575) : ∀ (d k i : Nat), i + d = s.size → d < k → PName.shaleref08_Name.l0 k s (i : Int) = some (if noneOf (s.data.toList.drop i) = true then 0 else 81) := by
  intro d
  induction d with
  | zero =>
    intro k i h hk
    obtain ⟨k, rfl⟩ : ∃ m, k = m + 1 := ⟨k - 1, by omega⟩
    rw [PName.shaleref08_Name.l0, if_neg (by omega), List.drop_eq_nil_of_le (by rw [show s.data.toList.length = s.size from rfl]; omega)]
    rfl
  | succ d ih =>
    intro k i h hk
    obtain ⟨k, rfl⟩ : ∃ m, k = m + 1 := ⟨k - 1, by omega⟩
    obtain ⟨c, hd, hb, he⟩ := bt_lt (s := s) (i := i) (by omega)
    have w1 : wrap64 ((i : Int) + 1) = ((i + 1 : Nat) : Int) := by rw [wr64 ⟨by omega, by omega⟩]; omega
    have hc : ∀ n : UInt8, (c.toNat : Int) = (n.toNat : Int) → c = n := fun n h => UInt8.toNat_inj.mp (by omega)
    rw [PName.shaleref08_Name.l0, if_pos (by omega), if_pos (by omega), hb, hd]
    by_cases h1 : c = 0
    · subst h1; rw [if_pos (show (((0 : UInt8).toNat : Nat) : Int) = 0 from rfl), if_neg (by simp [noneOf])]
    · rw [if_neg (show ¬ ((c.toNat : Int) = 0) from fun h => h1 (hc 0 h))]
      by_cases h2 : c = 47
      · subst h2; rw [if_pos (show (((47 : UInt8).toNat : Nat) : Int) = 47 from rfl), if_neg (by simp [noneOf])]
      · rw [if_neg (show ¬ ((c.toNat : Int) = 47) from fun h => h2 (hc 47 h)), w1, ih k (i + 1) (by omega) (by omega)]
        simp [noneOf, h1, h2]
theorem name_f (s : ByteArray) (k : Nat) (hk : 66 ≤ k) : PName.shaleref08_Name.f k s = some (if nameB s = true then 0 else 81) := by
  obtain ⟨k, rfl⟩ : ∃ m, k = m + 1 := ⟨k - 1, by omega⟩
  unfold PName.shaleref08_Name.f
  rw [toL]
  have hj : PName.shaleref08_Name.j0 (k + 1) s true = some 81 := by rw [PName.shaleref08_Name.j0, if_pos rfl]
  rw [hj]
  by_cases h1 : (s.size : Int) < 1
  · rw [if_pos h1, if_neg (by unfold nameB; rw [decide_eq_false (by omega)]; simp)]
  · rw [if_neg h1]
    by_cases h2 : (s.size : Int) > 63
    · rw [if_pos h2, if_neg (by unfold nameB; rw [decide_eq_false (by omega)]; simp)]
    · rw [if_neg h2]
      by_cases h3 : s.data.toList = [46]
      · rw [if_pos h3, if_neg (by unfold nameB; rw [h3]; simp)]
      · rw [if_neg h3]
        by_cases h4 : s.data.toList = [46, 46]
        · rw [h4, if_neg (by unfold nameB; rw [h4]; simp)]
          rw [PName.shaleref08_Name.j0, if_pos (by decide)]
        · rw [show (s.data.toList == [46, 46]) = false from by simpa using h4, PName.shaleref08_Name.j0, if_neg (by decide)]
          have := name_l0 s (by omega) s.size k 0 (by omega) (by omega)
          rw [List.drop_zero] at this
          have this : PName.shaleref08_Name.l0 k s 0 = _ := this
          rw [this]
          unfold nameB
          rw [decide_eq_true (by omega), show (s.data.toList != [46]) = true from by simpa using h3, show (s.data.toList != [46, 46]) = true from by simpa using h4]
          simp
theorem name_any (s : ByteArray) (w : World) (hw : Ok w) : Calls Tryd.prog 52 #[.string s] w fun e w' => e = .returned (.int .i64 (if nameB s = true then 0 else 81)) ∧ Fr w w' := by
  refine (PName.shaleref08_Name.calls 66 s _ w (name_f s 66 (Nat.le_refl _))).mono ?_
  rintro e w' ⟨rfl, q⟩
  exact ⟨rfl, Fr.of hw q.below⟩
theorem target_l0 (s : ByteArray) (hs : s.size ≤ 1048575) : ∀ (d k i : Nat), i + d = s.size → d < k → Ptarget.shaleref18_target.l0 k s (i : Int) = some ((s.data.toList.drop i).all fun c => c != 0) := by
  intro d
  induction d with
  | zero =>
    intro k i h hk
    obtain ⟨k, rfl⟩ : ∃ m, k = m + 1 := ⟨k - 1, by omega⟩
    rw [Ptarget.shaleref18_target.l0, if_neg (by omega), List.drop_eq_nil_of_le (by rw [show s.data.toList.length = s.size from rfl]; omega)]
    rfl
  | succ d ih =>
    intro k i h hk
    obtain ⟨k, rfl⟩ : ∃ m, k = m + 1 := ⟨k - 1, by omega⟩
    obtain ⟨c, hd, hb, he⟩ := bt_lt (s := s) (i := i) (by omega)
    have w1 : wrap64 ((i : Int) + 1) = ((i + 1 : Nat) : Int) := by rw [wr64 ⟨by omega, by omega⟩]; omega
    have hc : ∀ n : UInt8, (c.toNat : Int) = (n.toNat : Int) → c = n := fun n h => UInt8.toNat_inj.mp (by omega)
    rw [Ptarget.shaleref18_target.l0, if_pos (by omega), if_pos (by omega), hb, hd]
    by_cases h1 : c = 0
    · subst h1; rw [if_pos (show (((0 : UInt8).toNat : Nat) : Int) = 0 from rfl)]; simp
    · rw [if_neg (show ¬ ((c.toNat : Int) = 0) from fun h => h1 (hc 0 h)), w1, ih k (i + 1) (by omega) (by omega)]
      simp [h1]
theorem target_f (s : ByteArray) (k : Nat) (hk : 130 ≤ k) : Ptarget.shaleref18_target.f k 3 s = some (targetB s) := by
  obtain ⟨k, rfl⟩ : ∃ m, k = m + 1 := ⟨k - 1, by omega⟩
  unfold Ptarget.shaleref18_target.f
  rw [if_pos rfl]
  by_cases h1 : (s.size : Int) < 1
  · rw [if_pos h1, Ptarget.shaleref18_target.j0, if_pos rfl]
    unfold targetB
    rw [decide_eq_false (by omega)]
    rfl
  · rw [if_neg h1, Ptarget.shaleref18_target.j0]
    by_cases h2 : (s.size : Int) > 127
    · rw [if_pos (by simpa using h2)]
      unfold targetB
      rw [decide_eq_false (by omega)]
      rfl
    · rw [if_neg (by simpa using h2)]
      have := target_l0 s (by omega) s.size k 0 (by omega) (by omega)
      rw [List.drop_zero] at this
      have this : Ptarget.shaleref18_target.l0 k s 0 = _ := this
      rw [this]
      unfold targetB
      rw [decide_eq_true (by omega)]
      rfl
theorem target_any (s : ByteArray) (w : World) (hw : Ok w) : Calls Tryd.prog 55 #[.int .i64 3, .string s] w fun e w' => e = .returned (.bool (targetB s)) ∧ Fr w w' := by
  refine (Ptarget.shaleref18_target.calls 130 3 s _ w (target_f s 130 (Nat.le_refl _))).mono ?_
  rintro e w' ⟨rfl, q⟩
  exact ⟨rfl, Fr.of hw q.below⟩
end Go.Proofs.YtlnaeppbhjmocaaDoor
set_option linter.unusedSimpArgs false
set_option linter.unusedVariables false
namespace Go.Proofs.YtlnaeppbhjmocaaDoor
open Go.RowKit Go.Proofs Go.Proofs.YtlnaeppbhjmocaaDoorW.PrintWords Go.Proofs.YtlnaeppbhjmocaaDoorW.PrintMore

theorem bs_ext {a b : ByteArray} (h : a.data.toList = b.data.toList) : a = b := ByteArray.ext (Array.toList_inj.mp h)
/-- the path of the first k names, as the loop builds it -/
def pathSt (ns : List ByteArray) (k : Nat) : ByteArray := ⟨((ns.take k).flatMap fun n => slash :: n.data.toList).toArray⟩
theorem pathSt_zero (ns : List ByteArray) : pathSt ns 0 = ⟨#[]⟩ := by simp [pathSt]
theorem pathSt_succ (ns : List ByteArray) (k : Nat) (h : k < ns.length) : pathSt ns k ++ ⟨#[47]⟩ ++ ns[k] = pathSt ns (k + 1) := by
  have hsp : ns.take (k + 1) = ns.take k ++ [ns[k]] := (List.take_append_getElem (by omega)).symm
  refine bs_ext ?_
  unfold pathSt
  rw [hsp, List.flatMap_append, ByteArray.data_append, ByteArray.data_append]
  simp [slash]
theorem pathSt_last (ns : List ByteArray) (k : Nat) (nm : ByteArray) : pathSt ns k ++ ⟨#[47]⟩ ++ nm = pathOf (ns.take k ++ [nm]) := by
  refine bs_ext ?_
  unfold pathSt pathOf
  rw [if_neg (by simp), List.flatMap_append, ByteArray.data_append, ByteArray.data_append]
  simp [slash]
theorem pathSt_size (ns : List ByteArray) (k : Nat) : (pathSt ns k).size ≤ (pathOf ns).size := by
  have h1 : (pathSt ns k).size = ((ns.take k).flatMap fun n => slash :: n.data.toList).length := by unfold pathSt; exact List.size_toArray ..
  by_cases he : ns = []
  · subst he; rw [h1]; simp
  · have h2 : (pathOf ns).size = (ns.flatMap fun n => slash :: n.data.toList).length := by unfold pathOf; rw [if_neg he]; exact List.size_toArray ..
    rw [h1, h2]
    conv => rhs; rw [← List.take_append_drop k ns]
    rw [List.flatMap_append, List.length_append]; omega
theorem orFail_ok {o : Er} {b : Bool} {j : Nat} (h : orFail o b = .ok j) : o = .ok j ∧ b = false := by
  cases o with
  | error e => simp [orFail] at h
  | ok i => cases b <;> simp [orFail] at h ⊢; exact h
theorem mostX_rg {ahead : List ByteArray} {dir : Bool} (h : dir = true ∨ ahead ≠ []) : 0 ≤ mostX ahead dir ∧ mostX ahead dir ≤ 63 := by
  have : dir = true ∨ 0 < ahead.length := h.imp id (fun h => List.length_pos_iff.mpr h)
  unfold mostX
  cases dir <;> simp at this ⊢ <;> split <;> omega
/-- a leaf read well: its path is that of good names -/
theorem leafX_good {gt : ByteArray → ByteArray → Bool} {L : List Int} {dry : Bool} {ahead : List ByteArray} {dir : Bool} {o : Er} {lf : Lf} {ns : List ByteArray} {j : Nat} (hb : bytesOk L)
    (ha : ∀ n ∈ ahead, nameB n = true) (hne : dir = true ∨ ahead ≠ []) (h : leafX gt L dry ahead dir o = ((lf, ns), .ok j)) :
    lf.path = pathOf ns ∧ (∀ n ∈ ns, nameB n = true) ∧ ns.length ≤ 64 ∧ (pathOf ns).size ≤ 1023 ∧ ns ≠ [] := by
  unfold leafX at h
  have hk := numX_rg (L := L) (low := 0) (high := mostX ahead dir) (.inl (by omega)) (mostX_rg hne).1 1 o hb
  dsimp only at h
  obtain ⟨k, hkk⟩ : ∃ k, numX L 1 0 (mostX ahead dir) o = k := ⟨_, rfl⟩
  rw [hkk] at h hk
  have hm := (mostX_rg hne).2
  obtain ⟨st, hst⟩ : ∃ st, (numX L 8 0 18446744073709551615 (numX L 2 0 4095 (numX L 1 1 3 k.2).2).2) = st := ⟨_, rfl⟩
  rw [hst] at h
  obtain ⟨nm, hnm⟩ : ∃ nm, takeX L (numX L 1 1 63 st.2).1.toNat (numX L 1 1 63 st.2).2 = nm := ⟨_, rfl⟩
  rw [hnm] at h
  obtain ⟨nb, no⟩ := nm
  cases no with
  | error e => simp at h
  | ok i =>
    dsimp only at h
    split at h
    · simp at h
    · rename_i hc
      have hn1 : nameB (strOfNums nb) = true := by
        cases hq : nameB (strOfNums nb) with
        | true => rfl
        | false => exact absurd (.inl hq) hc
      have hn2 : (pathOf (ahead.take k.1.toNat ++ [strOfNums nb])).size ≤ 1023 := by
        apply Nat.le_of_not_lt
        intro hq
        exact hc (.inr (.inr hq))
      have key : ∀ (P : ByteArray) (N : List ByteArray), P = pathOf (ahead.take k.1.toNat ++ [strOfNums nb]) → N = ahead.take k.1.toNat ++ [strOfNums nb] →
          P = pathOf N ∧ (∀ n ∈ N, nameB n = true) ∧ N.length ≤ 64 ∧ (pathOf N).size ≤ 1023 ∧ N ≠ [] := by
        rintro P N rfl rfl
        refine ⟨rfl, fun n hn => ?_, ?_, hn2, by simp⟩
        · rcases List.mem_append.mp hn with h1 | h1
          · exact ha n (List.mem_of_mem_take h1)
          · rw [List.mem_singleton.mp h1]; exact hn1
        · rw [List.length_append, List.length_take]
          simp only [List.length_cons, List.length_nil]
          omega
      split at h
      · injection h with h1 h2
        injection h1 with h1 h3
        subst h1 h3
        exact key _ _ rfl rfl
      · split at h
        · injection h with h1 h2
          injection h1 with h1 h3
          subst h1 h3
          exact key _ _ rfl rfl
        · injection h with h1 h2
          injection h1 with h1 h3
          subst h1 h3
          exact key _ _ rfl rfl
/-- a leaf behind its first numbers -/
def leafE (gt : ByteArray → ByteArray → Bool) (L : List Int) (dry : Bool) (ahead : List ByteArray) (k : Nat) (ty mo st : Int) (nb : List Int) : Er → (Lf × List ByteArray) × Er
  | .error e => ((⟨⟨#[]⟩, ty, mo, st, [], ⟨#[]⟩⟩, []), .error e)
  | .ok j =>
    let ns := ahead.take k ++ [strOfNums nb]
    if nameB (strOfNums nb) = false ∨ (k < ahead.length ∧ gt (strOfNums nb) (ahead.getD k ⟨#[]⟩) = false) ∨ 1023 < (pathOf ns).size then ((⟨pathOf ns, ty, mo, st, [], ⟨#[]⟩⟩, ns), .error 191)
    else if ty = 1 then
      let n := numX L 4 0 16777216 (.ok j)
      let d := dataR L dry n.1 n.2
      ((⟨pathOf ns, ty, mo, st, d.1, ⟨#[]⟩⟩, ns), d.2)
    else if ty = 3 then
      let n := numX L 1 1 127 (.ok j)
      let t := takeX L n.1.toNat n.2
      ((⟨pathOf ns, ty, mo, st, [], strOfNums t.1⟩, ns), orFail t.2 (!targetB (strOfNums t.1)))
    else ((⟨pathOf ns, ty, mo, st, [], ⟨#[]⟩⟩, ns), .ok j)
end Go.Proofs.YtlnaeppbhjmocaaDoor
set_option linter.unusedSimpArgs false
set_option linter.unusedVariables false
namespace Go.Proofs.YtlnaeppbhjmocaaDoor
open Go.RowKit Go.Proofs

def RXB (w : World) (g : Nat) (A : Option Addr) (c : Nat) (L : List Int) (i : Nat) (e told : Int) (dry : Bool) : Prop := w.heap[g]? = some (.cells #[.slice A L.length c, .int .i64 i, .int .i64 e, .int .i64 told, .bool dry] 58 (0, 0))
/-- the reader's block: where it stands, or its error -/
def RX (w : World) (g : Nat) (A : Option Addr) (c : Nat) (L : List Int) (o : Er) (told : Int) (dry : Bool) : Prop := ∃ i, i ≤ L.length ∧ (∀ j, o = .ok j → i = j) ∧ (∀ e, o = .error e → e ≠ 0) ∧ RXB w g A c L i o.num told dry
theorem RX.fr {w w' : World} {g : Nat} {A : Option Addr} {c : Nat} {L : List Int} {o : Er} {told : Int} {dry : Bool} (h : RX w g A c L o told dry) (q : Fr w w') : RX w' g A c L o told dry := by
  obtain ⟨i, h1, h2, h3, h4⟩ := h
  exact ⟨i, h1, h2, h3, q.heap h4⟩
theorem RX.grown {w w' : World} {g : Nat} {A : Option Addr} {c : Nat} {L : List Int} {o : Er} {told : Int} {dry : Bool} {r : Option Nat} (h : RX w g A c L o told dry) (q : w.grownBy w' r) (hne : some g ≠ r) : RX w' g A c L o told dry := by
  obtain ⟨i, h1, h2, h3, h4⟩ := h
  exact ⟨i, h1, h2, h3, grown_blk' q h4 hne⟩

set_option maxHeartbeats 3200000 in
set_option maxRecDepth 100000 in
theorem fail_go (g : Nat) (A : Option Addr) (c : Nat) (L : List Int) (i : Nat) (e told : Int) (dry : Bool) (code : Int) (w : World) (H : RXB w g A c L i e told dry) :
    Calls Tryd.prog 53 #[.pointer (some ⟨g, 0, none⟩), .int .i64 code] w fun x w' => x = .returned (.tuple #[]) ∧ w.grownBy w' (some g) ∧ RXB w' g A c L i (if e = 0 then code else e) told dry := by
  unfold RXB at *
  obtain ⟨c0, c1, c2, c3, c4⟩ := blk5 H
  by_cases he : e = 0
  · subst he
    have z2 := unfroz H 2
    obtain ⟨wb, hwb, HB, gr⟩ := set_grown H 2 (.int .i64 code)
    simp only [List.setIfInBounds_toArray, List.set_cons_zero, List.set_cons_succ] at HB
    rw [if_pos rfl]
    go_enter Tryd.func53, Tryd.ntmps53
    go_wp2
    go_end0
    exact ⟨rfl, gr, HB⟩
  · have d1 : ((e : Int) == 0) = false := by simpa using he
    rw [if_neg he]
    clear he
    go_enter Tryd.func53, Tryd.ntmps53
    go_wp2
    go_end0
    exact ⟨rfl, grown_refl w _, H⟩

set_option maxHeartbeats 3200000 in
set_option maxRecDepth 100000 in
theorem take_yes (g gb ob c : Nat) (L : List Int) (i n : Nat) (told : Int) (dry : Bool) (w : World) (hw : Ok w) (H : RXB w g (some ⟨gb, ob, none⟩) c L i 0 told dry) (hi : i + n ≤ L.length) (hc : L.length ≤ c) (hL : L.length ≤ 1099511627776) (hg : 4 ≤ g) :
    Calls Tryd.prog 33 #[.pointer (some ⟨g, 0, none⟩), .int .i64 n] w fun e w' => ∃ o' c', e = .returned (.slice (some ⟨gb, o', none⟩) n c') ∧ n ≤ c' ∧ (n = 0 ∨ o' = ob + i) ∧ w.grownBy w' (some g) ∧ RXB w' g (some ⟨gb, ob, none⟩) c L (i + n) 0 told dry := by
  unfold RXB at *
  have f := Fr.refl hw
  obtain ⟨c0, c1, c2, c3, c4⟩ := blk5 H
  have w1 : IntKind.i64.wrap ((L.length : Int) - (i : Int)) = (L.length : Int) - (i : Int) := IntWalk.i64_in _ ⟨by omega, by omega⟩
  have d1 : decide (((L.length : Int) - (i : Int)) < (n : Int)) = false := decide_eq_false (by omega)
  go_enter Tryd.func33, Tryd.ntmps33
  go_wp2
  have r_c0 := cell_regrown c0
  have r_c1 := cell_regrown c1
  have r_c2 := cell_regrown c2
  refine wp_region_quiet_below (by kernel_rfl) (by kernel_rfl) ?_
  repeat (go_big_quiet_step (fail))
  refine wpQuiet_nil ?_
  intro wq hwq
  have q := Fr.regrown f.ok hwq
  clear hwq r_c0 r_c1 r_c2
  replace c0 := q.cell c0
  replace c1 := q.cell c1
  replace c2 := q.cell c2
  replace H := q.heap H
  replace f := f.trans q
  clear q
  clear w1 d1
  have w2 : IntKind.i64.wrap ((i : Int) + (n : Int)) = (i : Int) + (n : Int) := IntWalk.i64_in _ ⟨by omega, by omega⟩
  have w3 : IntKind.i64.wrap ((i : Int) + (n : Int) - (n : Int)) = (i : Int) := by rw [IntWalk.i64_in _ ⟨by omega, by omega⟩]; omega
  have z1 := unfroz H 1
  obtain ⟨wb, hwb, HB, gr⟩ := set_grown H 1 (.int .i64 ((i : Int) + (n : Int)))
  simp only [List.setIfInBounds_toArray, List.set_cons_zero, List.set_cons_succ] at HB
  obtain ⟨e0, e1, e2, e3, e4⟩ := blk5 HB
  have h1 : (i : Int) ≤ (i : Int) + (n : Int) := by omega
  have h2 : (i : Int) + (n : Int) ≤ (c : Int) := by omega
  have h3 : (0 : Int) ≤ (i : Int) := by omega
  have gr2 := grown_trans (fr_grown f (some g)) gr
  have f2 := Fr.refl (hw.grown hg gr2)
  go_wp2
  clear w2 z1 hwb c0 c1 c2 c3 c4
  have r_e0 := cell_regrown e0
  have r_e1 := cell_regrown e1
  refine wp_region_quiet_below (by kernel_rfl) (by kernel_rfl) ?_
  repeat (go_big_quiet_step (fail))
  refine wpQuiet_nil ?_
  intro wq hwq
  have q := Fr.regrown f2.ok hwq
  clear hwq r_e0 r_e1
  replace e0 := q.cell e0
  replace e1 := q.cell e1
  replace HB := q.heap HB
  replace f2 := f2.trans q
  clear q
  have HE := Lib.hid (And.intro (grown_trans gr2 (fr_grown f2 (some g))) HB)
  clear gr gr2 f f2 HB
  by_cases hci : c = i
  · have hci2 : (c : Int) = (i : Int) := by omega
    go_wp2
    all_goals (go_ret; exact ⟨_, _, rfl, by omega, .inl (by omega), HE.out.1, (by have := HE.out.2; rw [hci] at this; first | exact this | (rw [Int.natCast_add]; exact this))⟩)
  · have hci2 : ¬ (c : Int) = (i : Int) := by omega
    go_wp2
    go_ret
    exact ⟨_, _, rfl, by omega, .inr rfl, HE.out.1, HE.out.2⟩
set_option maxHeartbeats 3200000 in
set_option maxRecDepth 100000 in
theorem take_no (g : Nat) (A : Option Addr) (c : Nat) (L : List Int) (i n : Nat) (e told : Int) (dry : Bool) (w : World) (hw : Ok w) (H : RXB w g A c L i e told dry) (hi : i ≤ L.length) (hn : n ≤ 1099511627776) (hno : e ≠ 0 ∨ L.length < i + n) (hL : L.length ≤ 1099511627776) :
    Calls Tryd.prog 33 #[.pointer (some ⟨g, 0, none⟩), .int .i64 n] w fun x w' => x = .returned (.slice none 0 0) ∧ w.grownBy w' (some g) ∧ RXB w' g A c L i (if e = 0 then 190 else e) told dry := by
  have f := Fr.refl hw
  have HFl := Lib.hid (fun W (f : Fr w W) => fail_go g A c L i e told dry 190 W (f.heap H))
  unfold RXB at H
  obtain ⟨c0, c1, c2, c3, c4⟩ := blk5 H
  have w1 : IntKind.i64.wrap ((L.length : Int) - (i : Int)) = (L.length : Int) - (i : Int) := IntWalk.i64_in _ ⟨by omega, by omega⟩
  by_cases he : e = 0
  · have d1 : decide (((L.length : Int) - (i : Int)) < (n : Int)) = true := decide_eq_true (by rcases hno with h | h; exact absurd he h; omega)
    subst he
    clear hno
    go_enter Tryd.func33, Tryd.ntmps33
    go_wp2
    have r_c0 := cell_regrown c0
    have r_c1 := cell_regrown c1
    have r_c2 := cell_regrown c2
    refine wp_region_quiet_below (by kernel_rfl) (by kernel_rfl) ?_
    repeat (go_big_quiet_step (fail))
    refine wpQuiet_nil ?_
    intro wq hwq
    have q := Fr.regrown f.ok hwq
    clear hwq r_c0 r_c1 r_c2
    replace c0 := q.cell c0
    replace c1 := q.cell c1
    replace c2 := q.cell c2
    replace H := q.heap H
    replace f := f.trans q
    clear q
    go_wp2_with (go_at_call 53; refine (HFl.out _ f).mono ?_; rintro x wx ⟨rfl, gr, HB⟩; (have HE := Lib.hid (And.intro (grown_trans (fr_grown f (some g)) gr) HB)); clear gr HB)
    go_ret
    exact ⟨rfl, HE.out⟩
  · have d2 : ((e : Int) != 0) = true := by simpa using he
    have d2' : ((e : Int) == 0) = false := by simpa using he
    clear hno
    go_enter Tryd.func33, Tryd.ntmps33
    go_wp2
    have r_c0 := cell_regrown c0
    have r_c1 := cell_regrown c1
    have r_c2 := cell_regrown c2
    refine wp_region_quiet_below (by kernel_rfl) (by kernel_rfl) ?_
    repeat (go_big_quiet_step (fail))
    refine wpQuiet_nil ?_
    intro wq hwq
    have q := Fr.regrown f.ok hwq
    clear hwq r_c0 r_c1 r_c2
    replace c0 := q.cell c0
    replace c1 := q.cell c1
    replace c2 := q.cell c2
    replace H := q.heap H
    replace f := f.trans q
    clear q
    go_wp2_with (go_at_call 53; refine (HFl.out _ f).mono ?_; rintro x wx ⟨rfl, gr, HB⟩; (have HE := Lib.hid (And.intro (grown_trans (fr_grown f (some g)) gr) HB)); clear gr HB)
    go_ret
    exact ⟨rfl, by have h9 := HE.out; rw [if_neg he] at h9; exact h9⟩
theorem takeRow (g gb ob c : Nat) (L : List Int) (o : Er) (n : Nat) (told : Int) (dry : Bool) (w : World) (hw : Ok w) (H : RX w g (some ⟨gb, ob, none⟩) c L o told dry) (hA : BytesAt w (some ⟨gb, ob, none⟩) L) (hgb : gb ≠ g) (hn : n ≤ 1099511627776) (hc : L.length ≤ c) (hL : L.length ≤ 1073741824) (hg : 4 ≤ g) :
    Calls Tryd.prog 33 #[.pointer (some ⟨g, 0, none⟩), .int .i64 n] w fun e w' => ∃ B d, e = .returned (.slice B (takeX L n o).1.length d) ∧ (takeX L n o).1.length ≤ d ∧ (B = none → d = 0) ∧ (∀ a, B = some a → a.block = gb) ∧ BytesAt w' B (takeX L n o).1 ∧ w.grownBy w' (some g) ∧ RX w' g (some ⟨gb, ob, none⟩) c L (takeX L n o).2 told dry := by
  obtain ⟨i, hi, hoi, hoe, HB⟩ := H
  cases o with
  | error e =>
    refine (take_no g _ c L i n e told dry w hw HB hi hn (.inl (hoe e rfl)) (by omega)).mono ?_
    rintro x w' ⟨rfl, gr, HR⟩
    rw [if_neg (hoe e rfl)] at HR
    exact ⟨none, 0, rfl, Nat.zero_le _, fun _ => rfl, (fun a e => by cases e), .inl rfl, gr, i, hi, fun j e => (by cases e), hoe, HR⟩
  | ok j =>
    obtain rfl := hoi j rfl
    by_cases hle : i + n ≤ L.length
    · have hr : takeX L n (.ok i) = ((L.drop i).take n, .ok (i + n)) := by simp only [takeX, if_pos hle]
      have hl : ((L.drop i).take n).length = n := by rw [List.length_take, List.length_drop]; omega
      rw [hr]
      refine (take_yes g gb ob c L i n told dry w hw HB hle hc (by omega) hg).mono ?_
      rintro e w' ⟨o', d, rfl, hd, ho', gr, HR⟩
      refine ⟨some ⟨gb, o', none⟩, d, by rw [hl], by rw [hl]; exact hd, (fun e => by cases e), (fun a e => by injection e with e; subst e; rfl), ?_, gr, i + n, hle, fun j e => (by injection e), fun e h => (by cases h), HR⟩
      have hA' := hA.grown gr (fun a e => by injection e with e; subst e; intro e; injection e with e; exact hgb e)
      rcases ho' with h0 | h0
      · subst h0; left; simp
      · subst h0; exact hA'.sub i n
    · have hr : takeX L n (.ok i) = ([], .error 190) := by simp only [takeX, if_neg hle]
      rw [hr]
      refine (take_no g _ c L i n 0 told dry w hw HB hi hn (.inr (by omega)) (by omega)).mono ?_
      rintro x w' ⟨rfl, gr, HR⟩
      rw [if_pos rfl] at HR
      exact ⟨none, 0, rfl, Nat.zero_le _, fun _ => rfl, (fun a e => by cases e), .inl rfl, gr, i, hi, fun j e => (by cases e), fun e h => (by injection h with h; omega), HR⟩

set_option maxHeartbeats 6400000 in
set_option maxRecDepth 100000 in
theorem numRow (g gb ob c : Nat) (L : List Int) (o : Er) (n : Nat) (low high : Int) (told : Int) (dry : Bool) (w : World) (hw : Ok w) (H : RX w g (some ⟨gb, ob, none⟩) c L o told dry) (hA : BytesAt w (some ⟨gb, ob, none⟩) L) (hgb : gb ≠ g) (hb : bytesOk L) (hn : 1 ≤ n ∧ n ≤ 8) (hlo : 0 ≤ low) (hc : L.length ≤ c) (hL : L.length ≤ 1073741824) (hg : 4 ≤ g) :
    Calls Tryd.prog 32 #[.pointer (some ⟨g, 0, none⟩), .int .i64 n, .int .u64 low, .int .u64 high] w fun e w' => e = .returned (.int .u64 (numX L n low high o).1) ∧ w.grownBy w' (some g) ∧ RX w' g (some ⟨gb, ob, none⟩) c L (numX L n low high o).2 told dry := by
  have HT := Lib.hid (takeRow g gb ob c L o n told dry w hw H hA hgb (by omega) hc hL hg)
  have hbk := takeX_ok hb n o
  have hln : ∀ bs j, takeX L n o = (bs, .ok j) → bs.length = n := fun bs j h => (takeX_len h).1
  have hnx : ∀ bs o1, takeX L n o = (bs, o1) → numX L n low high o = match o1 with | .error e => (0, .error e) | .ok j => if low ≤ leV bs ∧ leV bs ≤ high then (leV bs, .ok j) else (0, .error 191) := fun bs o1 h => by
    unfold numX; rw [h]; cases o1 <;> rfl
  obtain ⟨⟨bs, o1⟩, e1⟩ : ∃ p, takeX L n o = p := ⟨_, rfl⟩
  rw [e1] at HT hbk
  dsimp only at HT hbk
  have hN := hnx bs o1 e1
  obtain ⟨PP, hPP⟩ : ∃ P, numX L n low high o = P := ⟨_, rfl⟩
  rw [hPP] at hN ⊢
  have HPP := Lib.hid hN
  have HLn := Lib.hid (fun j (h : o1 = .ok j) => hln bs j (by rw [e1, h]))
  clear hN hPP hnx hln e1 H hA
  have hb8 : bs.length ≤ 8 := by omega
  have HU := Lib.hid (fun k h => u64_256 hbk.1 hb8 (k := k) h)
  have HV := leV_u64 hbk.1 hb8
  have HFl := Lib.hid (fun W i e (H : RXB W g (some ⟨gb, ob, none⟩) c L i e told dry) => fail_go g (some ⟨gb, ob, none⟩) c L i e told dry 191 W H)
  go_enter Tryd.func32, Tryd.ntmps32
  go_wp2_with (go_at_call 33; refine HT.out.mono ?_; rintro e wx ⟨B, d, rfl, hd, _, _, hB, gr, HR⟩)
  have HC : Hid (∀ j (h : j < bs.length), ∃ a, B = some a ∧ wx.cell? (a.add j) = some (.int .u8 bs[j])) := Lib.hid (fun j hj => by
    rcases hB with h | ⟨g', o', rfl, _, h⟩
    · rw [h] at hj; simp at hj
    · exact ⟨_, rfl, by rw [Lib.add_plain]; exact h j _ (List.getElem?_eq_getElem hj)⟩)
  have ws : IntKind.i64.wrap ((bs.length : Int) - 1) = (bs.length : Int) - 1 := IntWalk.i64_in _ ⟨by omega, by omega⟩
  go_loopg [10, 11] bs.length (fun k v10 v11 wc => k ≤ bs.length ∧ v10 = .int .u64 (leV (bs.drop k)) ∧ v11 = .int .i64 ((k : Int) - 1) ∧ wc = wx)
  case atStart => exact ⟨Nat.le_refl _, by rw [List.drop_length]; rfl, rfl, rfl⟩
  case round =>
    obtain ⟨hk, rfl, rfl, rfl⟩ := hrel
    cases gk with
    | zero =>
      have d4 : decide ((0 : Int) ≤ ((0 : Nat) : Int) - 1) = false := decide_eq_false (by omega)
      rw [List.drop_zero]
      obtain ⟨i, hi, hoi, hoe, HRB⟩ := HR
      cases o1 with
      | error e =>
        have he := hoe e rfl
        have d1 : ((e : Int) == 0) = false := by simpa using he
        have d2 : ((e : Int) != 0) = true := by simpa using he
        have HF := Lib.hid (And.intro hoe (And.intro HRB gr))
        unfold RXB at HRB
        obtain ⟨c0, c1, c2, c3, c4⟩ := blk5 HRB
        simp only [Er.num] at c2
        clear he HRB gr hoe hoi
        go_wp2
        go_ret
        have hP := HPP.out
        subst hP
        exact ⟨rfl, HF.out.2.2, i, hi, fun j e => (by cases e), HF.out.1, HF.out.2.1⟩
      | ok j =>
        obtain rfl := hoi j rfl
        by_cases hlow : low ≤ leV bs
        · have d5 : decide (leV bs < low) = false := decide_eq_false (by omega)
          by_cases hhigh : leV bs ≤ high
          · have d6 : decide (high < leV bs) = false := decide_eq_false (by omega)
            have HI := Lib.hid (And.intro hlow hhigh)
            have HF := Lib.hid (And.intro HRB gr)
            unfold RXB at HRB
            obtain ⟨c0, c1, c2, c3, c4⟩ := blk5 HRB
            simp only [Er.num] at c2
            clear HRB gr hoe hoi hlow hhigh
            go_wp2
            go_ret
            have hP := HPP.out
            rw [if_pos HI.out] at hP
            subst hP
            exact ⟨rfl, HF.out.2, i, hi, fun j e => (by injection e), fun e h => (by cases h), HF.out.1⟩
          · have d6 : decide (high < leV bs) = true := decide_eq_true (by omega)
            have HI : Hid (¬ (low ≤ leV bs ∧ leV bs ≤ high)) := Lib.hid (fun h => hhigh h.2)
            have HF := Lib.hid (And.intro HRB gr)
            unfold RXB at HRB
            obtain ⟨c0, c1, c2, c3, c4⟩ := blk5 HRB
            simp only [Er.num] at c2
            clear HRB gr hoe hoi hlow hhigh
            go_wp2_with (go_at_call 53; refine (HFl.out _ i 0 HF.out.1).mono ?_; rintro x wy ⟨rfl, gr2, HY⟩; rw [if_pos rfl] at HY; (have HF2 := Lib.hid (And.intro HY gr2)); clear gr2; unfold RXB at HY; obtain ⟨c0, c1, c2, c3, c4⟩ := blk5 HY; clear HY)
            go_ret
            have hP := HPP.out
            rw [if_neg HI.out] at hP
            subst hP
            exact ⟨rfl, grown_trans HF.out.2 HF2.out.2, i, hi, fun j e => (by cases e), fun e h => (by injection h with h; omega), HF2.out.1⟩
        · have d5 : decide (leV bs < low) = true := decide_eq_true (by omega)
          have HI : Hid (¬ (low ≤ leV bs ∧ leV bs ≤ high)) := Lib.hid (fun h => hlow h.1)
          have HF := Lib.hid (And.intro HRB gr)
          unfold RXB at HRB
          obtain ⟨c0, c1, c2, c3, c4⟩ := blk5 HRB
          simp only [Er.num] at c2
          clear HRB gr hoe hoi hlow
          go_wp2_with (go_at_call 53; refine (HFl.out _ i 0 HF.out.1).mono ?_; rintro x wy ⟨rfl, gr2, HY⟩; rw [if_pos rfl] at HY; (have HF2 := Lib.hid (And.intro HY gr2)); clear gr2; unfold RXB at HY; obtain ⟨c0, c1, c2, c3, c4⟩ := blk5 HY; clear HY)
          go_ret
          have hP := HPP.out
          rw [if_neg HI.out] at hP
          subst hP
          exact ⟨rfl, grown_trans HF.out.2 HF2.out.2, i, hi, fun j e => (by cases e), fun e h => (by injection h with h; omega), HF2.out.1⟩
    | succ k =>
      have d4 : decide ((0 : Int) ≤ ((k + 1 : Nat) : Int) - 1) = true := decide_eq_true (by omega)
      obtain ⟨u1, u2, u3⟩ := HU.out k (by omega)
      obtain ⟨a, rfl, e0⟩ := HC.out k (by omega)
      have hk1 : ((k + 1 : Nat) : Int) - 1 = (k : Int) := by omega
      rw [hk1] at d4
      rw [hk1]
      have wk : IntKind.i64.wrap ((k : Int) - 1) = (k : Int) - 1 := IntWalk.i64_in _ ⟨by omega, by omega⟩
      have hkn : (k : Int) < (bs.length : Int) := by omega
      have hk0 : (0 : Int) ≤ (k : Int) := by omega
      go_wp2
      go_roundg k
      case measure => omega
      case rel => exact ⟨by omega, rfl, rfl, rfl⟩
end Go.Proofs.YtlnaeppbhjmocaaDoor
set_option linter.unusedSimpArgs false
set_option linter.unusedVariables false
namespace Go.Proofs.YtlnaeppbhjmocaaDoor
open Go.RowKit Go.Proofs Go.Proofs.YtlnaeppbhjmocaaDoorW.PrintWords Go.Proofs.YtlnaeppbhjmocaaDoorW.PrintMore

theorem rd_nat (b : List Int) (i : Nat) : rd b (i : Int) = b.getD i 0 := by unfold rd; rw [Int.toNat_natCast]
theorem zeros_l0 (b : List Int) (hL : b.length ≤ 1073741824) : ∀ (d k i x : Nat), i + x + d = b.length → d < k → Pfilled.shaleref18_zeros.l0 k b (i : Int) (x : Int) = some (((x + lead0 (b.drop (i + x)) : Nat)) : Int) := by
  intro d
  induction d with
  | zero =>
    intro k i x h hk
    obtain ⟨k, rfl⟩ : ∃ m, k = m + 1 := ⟨k - 1, by omega⟩
    simp only [Pfilled.shaleref18_zeros.l0]
    rw [wr64 ⟨by omega, by omega⟩, if_neg (by omega), List.drop_eq_nil_of_le (by omega)]
    rfl
  | succ d ih =>
    intro k i x h hk
    obtain ⟨k, rfl⟩ : ∃ m, k = m + 1 := ⟨k - 1, by omega⟩
    simp only [Pfilled.shaleref18_zeros.l0]
    have e1 : wrap64 ((i : Int) + (x : Int)) = ((i + x : Nat) : Int) := by rw [wr64 ⟨by omega, by omega⟩]; omega
    have e2 : wrap64 ((x : Int) + 1) = ((x + 1 : Nat) : Int) := by rw [wr64 ⟨by omega, by omega⟩]; omega
    rw [e1, if_pos (by omega), if_pos (by omega), rd_nat, e2, drop_getD (show i + x < b.length by omega)]
    by_cases hz : b.getD (i + x) 0 = 0
    · rw [if_pos hz, ih k i (x + 1) (by omega) (by omega)]
      simp only [lead0]
      rw [if_pos hz, show i + (x + 1) = i + x + 1 by omega]
      congr 1; omega
    · rw [if_neg hz]
      simp only [lead0]
      rw [if_neg hz]; rfl
theorem zeros_f (b : List Int) (hL : b.length ≤ 1073741824) (k i : Nat) (hi : i ≤ b.length) (hk : b.length - i < k) : Pfilled.shaleref18_zeros.f k b (i : Int) = some ((lead0 (b.drop i) : Nat) : Int) := by
  have := zeros_l0 b hL (b.length - i) k i 0 (by omega) hk
  unfold Pfilled.shaleref18_zeros.f
  simpa using this
def finB (b : List Int) (behind more : Bool) : Bool := !b.isEmpty && !(behind && b.headD 1 == 0) && !(more && b.getLastD 1 == 0)
theorem filledB_eq (b : List Int) (behind more : Bool) : filledB b behind more = (no16 b && finB b behind more) := by
  unfold filledB finB; simp only [Bool.and_assoc]
theorem last_getD (a : Int) (r : List Int) : (a :: r).getD r.length 0 = (a :: r).getLastD 1 := by
  simp [List.getD, List.getLastD, List.getLast_eq_getElem]
theorem filled_last (b : List Int) (hL : b.length ≤ 1073741824) (x1 x2 : Bool) (k : Nat) : Pfilled.shaleref18_filled.l0 (k + 1) b x1 x2 (b.length : Int) = some (finB b x1 x2) := by
  simp only [Pfilled.shaleref18_filled.l0]
  rw [if_neg (by omega)]
  cases b with
  | nil => simp [finB]
  | cons a r =>
    have hl : ((a :: r).length : Int) = (r.length : Int) + 1 := by simp
    have e1 : wrap64 (((a :: r).length : Int) - 1) = (r.length : Int) := by rw [hl, wr64 ⟨by simp at hL; omega, by simp at hL; omega⟩]; omega
    have e2 : rd (a :: r) 0 = a := by unfold rd; rfl
    have h1 : ((a :: r).length : Int) > 0 := by omega
    have h2 : (0 : Int) < ((a :: r).length : Int) := by omega
    have h3 : (0 : Int) ≤ (r.length : Int) := by omega
    have h4 : (r.length : Int) < ((a :: r).length : Int) := by omega
    simp only [e1, if_pos h1, if_pos h2, if_pos h3, if_pos h4, rd_nat, e2, last_getD]
    unfold finB
    generalize (a :: r).getLastD 1 = z
    by_cases ha : a = 0 <;> cases x1 <;> cases x2 <;> simp [ha]
theorem filled_from (b : List Int) (hL : b.length ≤ 1073741824) (x1 x2 : Bool) : ∀ (d k i : Nat), i + d = b.length → d + 1 < k → Pfilled.shaleref18_filled.l0 k b x1 x2 (i : Int) = some (no16 (b.drop i) && finB b x1 x2) := by
  intro d
  induction d with
  | zero =>
    intro k i h hk
    obtain ⟨k, rfl⟩ : ∃ m, k = m + 1 := ⟨k - 1, by omega⟩
    obtain rfl : i = b.length := by omega
    rw [filled_last b hL, List.drop_length]
    rfl
  | succ d ih =>
    intro k i h hk
    obtain ⟨k, rfl⟩ : ∃ m, k = m + 1 := ⟨k - 1, by omega⟩
    have e2 : wrap64 ((i : Int) + 1) = ((i + 1 : Nat) : Int) := by rw [wr64 ⟨by omega, by omega⟩]; omega
    simp only [Pfilled.shaleref18_filled.l0]
    rw [if_pos (by omega), zeros_f b hL k i (by omega) (by omega)]
    simp only [Option.bind_some]
    have hn : no16 (b.drop i) = (decide (lead0 (b.drop i) < 16) && no16 (b.drop (i + 1))) := by
      rw [drop_getD (show i < b.length by omega)]; rfl
    rw [hn]
    by_cases h16 : lead0 (b.drop i) < 16
    · rw [if_neg (by omega), e2, ih k (i + 1) (by omega) (by omega), decide_eq_true h16]
      rfl
    · rw [if_pos (by omega), decide_eq_false h16]
      rfl
theorem filled_any (A : Option Addr) (c : Nat) (b : List Int) (x1 x2 : Bool) (w : World) (hw : Ok w) (hA : BytesAt w A b) (hc : b.length ≤ c) (hL : b.length ≤ 1073741824) :
    Calls Tryd.prog 68 #[.slice A b.length c, .bool x1, .bool x2] w fun e w' => e = .returned (.bool (filledB b x1 x2)) ∧ Fr w w' := by
  have hf : Pfilled.shaleref18_filled.f (b.length + 2) b x1 x2 = some (filledB b x1 x2) := by
    have := filled_from b hL x1 x2 b.length (b.length + 2) 0 (by omega) (by omega)
    unfold Pfilled.shaleref18_filled.f
    rw [filledB_eq]
    simpa using this
  exact (Pfilled.shaleref18_filled.calls _ A c b x1 x2 _ w (hA.toC (by omega)) hc hf).mono fun e w' ⟨he, hd⟩ => ⟨he, Fr.of hw hd.below⟩
end Go.Proofs.YtlnaeppbhjmocaaDoor
set_option linter.unusedSimpArgs false
set_option linter.unusedVariables false
namespace Go.Proofs.YtlnaeppbhjmocaaDoor
open Go.RowKit Go.Proofs Go.Proofs.YtlnaeppbhjmocaaDoorW.PrintWords Go.Proofs.YtlnaeppbhjmocaaDoorW.PrintMore

theorem make_zeros (n : Nat) (hn : n ≤ 16777216) (B : Nat) (w : World) (hB : B ≤ w.heap.size) : ∃ w', (Instr.makeSlice 22 (.int .i64 (n : Int)) (.int .i64 (n : Int))).run Tryd.prog w = .ok (.slice (some ⟨w.heap.size, 0, none⟩) n n) w' ∧ OwnB w' B (.slice (some ⟨w.heap.size, 0, none⟩) n n) (List.replicate n 0) ∧ w.grownBy w' none := by
  obtain ⟨i, hi, hz, hs, hb⟩ := info_byte
  obtain ⟨w', h1, h2, h3⟩ := run_make_full (P := Tryd.prog) w B 22 5 i (.int .u8 0) 1 Tryd.underlying22 hi hz hs .i64 .i64 n (by rw [hb]; omega) (by unfold maxLen; omega) hB
  refine ⟨w', h1, ?_, h3⟩
  unfold OwnB
  rw [List.length_replicate, List.map_replicate]
  have : (madeCells (Value.int .u8 0).cells (n * 1)).toList = List.replicate n (Value.int .u8 0) := by rw [Nat.mul_one]; exact toList_madeCells_one _ _
  rw [this] at h2
  exact h2

theorem rx_ne {w : World} {g : Nat} {A : Option Addr} {c : Nat} {L : List Int} {o : Er} {told : Int} {dry : Bool} (h : RX w g A c L o told dry) {base size n : Nat} {e : TypeId} {v : Value} {xs : List Value} (O : w.ownsRow base e size v n xs) (he : e ≠ 58) : some g ≠ v.ownBlock := by
  obtain ⟨_, _, _, _, hb⟩ := h
  exact own_ne3 O hb he
theorem rx_cells {w : World} {g : Nat} {A : Option Addr} {c : Nat} {L : List Int} {o : Er} {told : Int} {dry : Bool} (h : RX w g A c L o told dry) : w.cell? ⟨g, 2, none⟩ = some (.int .i64 o.num) ∧ w.cell? ⟨g, 4, none⟩ = some (.bool dry) := by
  obtain ⟨_, _, _, _, hb⟩ := h
  exact ⟨(blk5 hb).2.2.1, (blk5 hb).2.2.2.2⟩
theorem rx_err {w : World} {g : Nat} {A : Option Addr} {c : Nat} {L : List Int} {e : Int} {told : Int} {dry : Bool} (h : RX w g A c L (.error e) told dry) : e ≠ 0 := by
  obtain ⟨_, _, _, h3, _⟩ := h
  exact h3 e rfl
/-- fail where nothing was wrong -/
theorem failRow (g : Nat) (A : Option Addr) (c : Nat) (L : List Int) (j : Nat) (told : Int) (dry : Bool) (code : Int) (hc : code ≠ 0) (w : World) (H : RX w g A c L (.ok j) told dry) :
    Calls Tryd.prog 53 #[.pointer (some ⟨g, 0, none⟩), .int .i64 code] w fun x w' => x = .returned (.tuple #[]) ∧ w.grownBy w' (some g) ∧ RX w' g A c L (.error code) told dry := by
  obtain ⟨i, hi, hoi, hoe, HB⟩ := H
  refine (fail_go g A c L i 0 told dry code w HB).mono ?_
  rintro x w' ⟨rfl, gr, HR⟩
  rw [if_pos rfl] at HR
  exact ⟨rfl, gr, i, hi, fun j e => (by cases e), fun e h => (by injection h with h; omega), HR⟩
theorem wpList_append_run {P : Program} {ops : Array Oper} {rest : List Oper} {o : Oper} {a : Act} {Q : Exit → Act → World → Prop} {w : World} (hgd : o.guard = none) (s x : Operand) (t1 t2 : TypeId)
    (ho : o.op = .call { callee := .builtin .append, args := #[s, x], argTypes := #[t1, t2] }) {v u v' : Value} {w' : World} (hs : a.eval s = v) (hx : a.eval x = u)
    (hr : (Builtin.append_ #[t1, t2] o.type #[v, u]).run P w = .ok v' w') (h : wpList P ops Q rest (a.put o.dst v') w') : wpList P ops Q (o :: rest) a w := by
  refine wpList_plain hgd fun K hK => ?_
  unfold Oper.wp execOp
  simp only [ho, resolve, invoke, builtin, Sem.run_bind, Sem.run_pure, Result.andThen_ok, List.map_toArray, List.map_cons, List.map_nil, hs, hx, hr]
  exact hK _ _ h

set_option maxHeartbeats 25600000 in
set_option maxRecDepth 100000 in
theorem data_go (Q : Ending → World → Prop) (g gb ob c : Nat) (L : List Int) (o : Er) (told : Int) (dry : Bool) (w : World) (hw : Ok w) (H : RX w g (some ⟨gb, ob, none⟩) c L o told dry) (hA : BytesAt w (some ⟨gb, ob, none⟩) L) (hgb : gb ≠ g) (hb : bytesOk L) (hc : L.length ≤ c) (hL : L.length ≤ 1073741824) (hg : 4 ≤ g)
    (HP : Hid (∀ w' v told', w.grownBy w' (some g) → RX w' g (some ⟨gb, ob, none⟩) c L (dataR L dry (numX L 4 0 16777216 o).1 (numX L 4 0 16777216 o).2).2 told' dry → OwnB w' w.heap.size v (dataR L dry (numX L 4 0 16777216 o).1 (numX L 4 0 16777216 o).2).1 → Q (.returned v) w')) :
    Calls Tryd.prog 54 #[.pointer (some ⟨g, 0, none⟩)] w Q := by
  have hnr := numX_rg (L := L) (low := 0) (high := 16777216) (.inl (by omega)) (by omega) 4 o hb
  obtain ⟨⟨n, on⟩, e1⟩ : ∃ p, numX L 4 0 16777216 o = p := ⟨_, rfl⟩
  rw [e1] at hnr HP
  dsimp only at hnr HP
  obtain ⟨PP, hPP⟩ : ∃ P, dataR L dry n on = P := ⟨_, rfl⟩
  rw [hPP] at HP
  unfold dataR at hPP
  have HPP := Lib.hid hPP
  have HBy := Lib.hid hb
  have hgS : ∀ a, ((some ⟨gb, ob, none⟩) : Option Addr) = some a → some a.block ≠ some g := fun a e k => by injection e with e; subst e; injection k with k; exact hgb k
  have gr := grown_refl w (some g)
  have HR := H
  have hNu := Lib.hid (fun (W : World) (gr : w.grownBy W (some g)) o told HR s lo hi h1 h2 => numRow g gb ob c L o s lo hi told dry W (hw.grown hg gr) HR (hA.grown gr hgS) hgb hb h1 h2 hc hL hg)
  have hTk := Lib.hid (fun (W : World) (gr : w.grownBy W (some g)) o told HR k h1 => takeRow g gb ob c L o k told dry W (hw.grown hg gr) HR (hA.grown gr hgS) hgb h1 hc hL hg)
  have hFi := Lib.hid (fun (W : World) (gr : w.grownBy W (some g)) A c b x1 x2 hA hc hL => filled_any A c b x1 x2 W (hw.grown hg gr) hA hc hL)
  have hok := Lib.hid (fun (W : World) (gr : w.grownBy W (some g)) => hw.grown hg gr)
  obtain ⟨iy, hiy, hzy, hsy, hyy⟩ := info_byte
  have E1 := Lib.hid e1
  have x1 : IntKind.i64.wrap n = n := IntWalk.i64_in _ ⟨by omega, by omega⟩
  clear e1 hPP hA hc hb H
  go_enter Tryd.func54, Tryd.ntmps54
  go_upto_block 0 with (go_at_call 32; (have ct := hNu.out _ gr _ _ HR 4 0 16777216 (by omega) (by omega)); rw [E1.out] at ct; refine ct.mono ?_; clear ct; rintro e wa ⟨rfl, q, HRa⟩; replace gr := grown_trans gr q; clear q HR; obtain ⟨i0, hi0, hj0, he0, HB0⟩ := HRa; unfold RXB at HB0; obtain ⟨c0, c1, c2, c3, c4⟩ := blk5 HB0; have z3 := unfroz HB0 3; obtain ⟨wb, hwb, HB1, q⟩ := set_grown HB0 3 (.int .i64 (wrap64 (told + n))); simp only [List.setIfInBounds_toArray, List.set_cons_zero, List.set_cons_succ] at HB1; replace gr := grown_trans gr q; (have HR : RX wb g (some ⟨gb, ob, none⟩) c L on (wrap64 (told + n)) dry := ⟨i0, hi0, hj0, he0, HB1⟩); clear q HB0 HB1 hi0 hj0 he0)
  clear c0 c1 c2 c3 c4 z3 hwb x1
  obtain ⟨tld, htld⟩ : ∃ t, wrap64 (told + n) = t := ⟨_, rfl⟩
  rw [htld] at HR
  clear htld
  go_wp2_with fail
  go_loopg [4, 5, 6] (n.toNat + 1) (fun k v4 v5 v6 wc => ∃ (tl : Int) (out : List Int) (a : Option Addr) (d : Nat) (last : Int) (oi : Er), Hid (dataX L dry n k tl out last oi = PP) ∧ (n - tl).toNat < k ∧ 0 ≤ tl ∧ tl ≤ n ∧ (out.length : Int) ≤ tl ∧ v4 = .slice a out.length d ∧ v5 = .int .i64 last ∧ v6 = .int .i64 tl ∧ -1 ≤ last ∧ last ≤ 1 ∧
    Hid (w.grownBy wc (some g)) ∧ Hid (RX wc g (some ⟨gb, ob, none⟩) c L oi tld dry) ∧ Hid (OwnB wc w.heap.size (.slice a out.length d) out))
  case atStart => exact ⟨0, [], none, 0, -1, on, HPP, by omega, by omega, by omega, by simp, rfl, rfl, rfl, by omega, by omega, Lib.hid gr, Lib.hid HR, Lib.hid (OwnB.nil _ _)⟩
  case round =>
    clear gr HR
    obtain ⟨tl, out, a, d, last, oi, HD, hfu, ht0, htn, hot, rfl, rfl, rfl, hl0, hl1, gr, HR, O⟩ := hrel
    replace gr := gr.out
    replace HR := HR.out
    replace O := O.out
    cases gk with
    | zero => exact absurd hfu (by omega)
    | succ k =>
      by_cases hend : n ≤ tl ∨ ∃ e, oi = .error e
      · have hPo : PP = (out, oi) := by
          have h := HD.out
          cases oi with
          | error e => rw [dataX_error] at h; exact h.symm
          | ok i =>
            simp only [dataX] at h
            rw [if_neg (by rcases hend with h1 | ⟨e, h1⟩; omega; cases h1)] at h
            exact h.symm
        have HPo := Lib.hid hPo
        have HF := Lib.hid (And.intro gr (And.intro HR O))
        have hcc := (rx_cells HR).1
        clear hPo gr O HD
        rcases hend with h1 | ⟨e, h1⟩
        · have d1 : decide (tl < n) = false := decide_eq_false (by omega)
          clear HR hcc h1
          go_wp2
          show Q (.returned (.slice a out.length d)) _
          have h := HPo.out
          subst h
          exact HP.out _ _ _ HF.out.1 HF.out.2.1 HF.out.2.2
        · subst h1
          have he := rx_err HR
          have d2 : ((e : Int) == 0) = false := by simpa using he
          simp only [Er.num] at hcc
          clear HR he
          by_cases h2 : tl < n
          · have d1 : decide (tl < n) = true := decide_eq_true h2
            clear h2
            go_wp2
            show Q (.returned (.slice a out.length d)) _
            have h := HPo.out
            subst h
            exact HP.out _ _ _ HF.out.1 HF.out.2.1 HF.out.2.2
          · have d1 : decide (tl < n) = false := decide_eq_false h2
            clear h2
            go_wp2
            show Q (.returned (.slice a out.length d)) _
            have h := HPo.out
            subst h
            exact HP.out _ _ _ HF.out.1 HF.out.2.1 HF.out.2.2
      · obtain ⟨i, rfl⟩ : ∃ i, oi = .ok i := by cases oi with
          | error e => exact absurd (.inr ⟨e, rfl⟩) hend
          | ok i => exact ⟨i, rfl⟩
        have htl : tl < n := by
          by_cases h : tl < n
          · exact h
          · exact absurd (.inl (by omega)) hend
        clear hend
        have har := numX_rg (L := L) (low := 0) (high := 1) (.inl (by omega)) (by omega) 1 (.ok i) HBy.out
        obtain ⟨⟨av, a1⟩, b1⟩ : ∃ p, numX L 1 0 1 (.ok i) = p := ⟨_, rfl⟩
        rw [b1] at har
        dsimp only at har
        obtain ⟨a2, b2⟩ : ∃ p, orFail a1 (decide (av = last)) = p := ⟨_, rfl⟩
        obtain ⟨low, blo⟩ : ∃ p : Int, (if av = 0 then 16 else 1) = p := ⟨_, rfl⟩
        have hkr := numX_rg (L := L) (low := low) (high := n - tl) (.inr trivial) (by omega) 4 a2 HBy.out
        obtain ⟨⟨kv, k1⟩, b3⟩ : ∃ p, numX L 4 low (n - tl) a2 = p := ⟨_, rfl⟩
        rw [b3] at hkr
        dsimp only at hkr
        have hlow : 1 ≤ low ∧ low ≤ 16 := by rw [← blo]; split <;> omega
        have HDD := HD.out
        simp only [dataX, if_pos htl, b1] at HDD
        rw [b2, blo, b3] at HDD
        have HD2 := Lib.hid HDD
        have HB1 := Lib.hid b1
        have HB2 := Lib.hid b2
        have HB3 := Lib.hid b3
        have HBl := Lib.hid blo
        clear b1 b2 b3 blo HDD HD
        have d1 : decide (tl < n) = true := decide_eq_true htl
        have w1 : IntKind.i64.wrap av = av := IntWalk.i64_in _ ⟨by omega, by omega⟩
        have w2 : IntKind.u64.wrap (n - tl) = n - tl := u64_in ⟨by omega, by omega⟩
        have w3 : IntKind.i64.wrap kv = kv := IntWalk.i64_in _ ⟨by omega, by omega⟩
        have q2 := (rx_cells HR).1
        simp only [Er.num] at q2
        have tok0 : True := trivial
        have hA2 : (∃ e1, a1 = .error e1 ∧ a2 = .error e1) ∨ (∃ j, a1 = .ok j ∧ av = last ∧ a2 = .error 191) ∨ (∃ j, a1 = .ok j ∧ av ≠ last ∧ a2 = .ok j) := by
          have h := HB2.out
          cases a1 with
          | error e1 => exact .inl ⟨e1, rfl, h.symm⟩
          | ok j =>
            by_cases hv : av = last
            · exact .inr (.inl ⟨j, rfl, hv, by simp only [orFail, decide_eq_true hv, if_true] at h; exact h.symm⟩)
            · exact .inr (.inr ⟨j, rfl, hv, by simp only [orFail, decide_eq_false hv] at h; exact h.symm⟩)
        clear HB2
        rcases k1 with e | j2
        · have HPo : Hid (PP = ([], .error e)) := Lib.hid HD2.out.symm
          clear HD2
          by_cases hav : av = 0
          · have hl9 : low = 16 := by have h := HBl.out; rw [if_pos hav] at h; exact h.symm
            subst hl9
            have d4 : ((av : Int) == 0) = true := by simpa using hav
            clear HBl hav
            rcases hA2 with ⟨e1, rfl, rfl⟩ | ⟨j, rfl, hv, rfl⟩ | ⟨j, rfl, hv, rfl⟩
            · skip
              go_wp2_with (first
                | (go_at_call 32; have _t := tok0; (have ct := hNu.out _ gr _ _ HR 1 0 1 (by omega) (by omega)); rw [HB1.out] at ct; refine ct.mono ?_; clear ct; rintro e9 wa ⟨rfl, q, HRa⟩; (have O1 := own_keep O q (fun k hk e => by subst e; exact rx_ne HR O (by decide) hk.symm)); clear O; have O := O1; clear O1; replace gr := grown_trans gr q; clear q HR tok0; have HR := HRa; clear HRa; have p2 := (rx_cells HR).1; simp only [Er.num] at p2; have he1 := rx_err HR; (have d6 : ((e1 : Int) == 0) = false := by simpa using he1); clear he1; have tok1 : True := trivial)
                | (go_at_call 32; have _t := tok1; (have ct := hNu.out _ gr _ _ HR 4 16 (n - tl) (by omega) (by omega)); rw [HB3.out] at ct; refine ct.mono ?_; clear ct; rintro e3 wd ⟨rfl, q, HRa⟩; (have O1 := own_keep O q (fun k hk e => by subst e; exact rx_ne HR O (by decide) hk.symm)); clear O; have O := O1; clear O1; replace gr := grown_trans gr q; clear q HR tok1 p2; have HR := HRa; clear HRa; have he := rx_err HR; (have d7 : ((e : Int) != 0) = true := by simpa using he); clear he; have p2 := (rx_cells HR).1; simp only [Er.num] at p2; (have HF := Lib.hid (And.intro gr HR))))
              show Q (.returned (.slice none 0 0)) _
              have h := HPo.out
              subst h
              exact HP.out _ _ _ HF.out.1 HF.out.2 (OwnB.nil _ _)
            · have d5 : ((av : Int) == last) = true := by simpa using hv
              clear hv
              go_wp2_with (first
                | (go_at_call 32; have _t := tok0; (have ct := hNu.out _ gr _ _ HR 1 0 1 (by omega) (by omega)); rw [HB1.out] at ct; refine ct.mono ?_; clear ct; rintro e1 wa ⟨rfl, q, HRa⟩; (have O1 := own_keep O q (fun k hk e => by subst e; exact rx_ne HR O (by decide) hk.symm)); clear O; have O := O1; clear O1; replace gr := grown_trans gr q; clear q HR tok0; have HR := HRa; clear HRa; have p2 := (rx_cells HR).1; simp only [Er.num] at p2; have tok1 : True := trivial)
                | (go_at_call 53; refine (failRow g _ c L j tld dry 191 (by omega) _ HR).mono ?_; rintro e2 wb ⟨rfl, q, HRa⟩; (have O1 := own_keep O q (fun k hk e => by subst e; exact rx_ne HR O (by decide) hk.symm)); clear O; have O := O1; clear O1; replace gr := grown_trans gr q; clear q HR p2; have HR := HRa; clear HRa; have p2 := (rx_cells HR).1; simp only [Er.num] at p2)
                | (go_at_call 32; have _t := tok1; (have ct := hNu.out _ gr _ _ HR 4 16 (n - tl) (by omega) (by omega)); rw [HB3.out] at ct; refine ct.mono ?_; clear ct; rintro e3 wd ⟨rfl, q, HRa⟩; (have O1 := own_keep O q (fun k hk e => by subst e; exact rx_ne HR O (by decide) hk.symm)); clear O; have O := O1; clear O1; replace gr := grown_trans gr q; clear q HR tok1 p2; have HR := HRa; clear HRa; have he := rx_err HR; (have d7 : ((e : Int) != 0) = true := by simpa using he); clear he; have p2 := (rx_cells HR).1; simp only [Er.num] at p2; (have HF := Lib.hid (And.intro gr HR))))
              show Q (.returned (.slice none 0 0)) _
              have h := HPo.out
              subst h
              exact HP.out _ _ _ HF.out.1 HF.out.2 (OwnB.nil _ _)
            · have d5 : ((av : Int) == last) = false := by simpa using hv
              clear hv
              go_wp2_with (first
                | (go_at_call 32; have _t := tok0; (have ct := hNu.out _ gr _ _ HR 1 0 1 (by omega) (by omega)); rw [HB1.out] at ct; refine ct.mono ?_; clear ct; rintro e1 wa ⟨rfl, q, HRa⟩; (have O1 := own_keep O q (fun k hk e => by subst e; exact rx_ne HR O (by decide) hk.symm)); clear O; have O := O1; clear O1; replace gr := grown_trans gr q; clear q HR tok0; have HR := HRa; clear HRa; have p2 := (rx_cells HR).1; simp only [Er.num] at p2; have tok1 : True := trivial)
                | (go_at_call 32; have _t := tok1; (have ct := hNu.out _ gr _ _ HR 4 16 (n - tl) (by omega) (by omega)); rw [HB3.out] at ct; refine ct.mono ?_; clear ct; rintro e3 wd ⟨rfl, q, HRa⟩; (have O1 := own_keep O q (fun k hk e => by subst e; exact rx_ne HR O (by decide) hk.symm)); clear O; have O := O1; clear O1; replace gr := grown_trans gr q; clear q HR tok1 p2; have HR := HRa; clear HRa; have he := rx_err HR; (have d7 : ((e : Int) != 0) = true := by simpa using he); clear he; have p2 := (rx_cells HR).1; simp only [Er.num] at p2; (have HF := Lib.hid (And.intro gr HR))))
              show Q (.returned (.slice none 0 0)) _
              have h := HPo.out
              subst h
              exact HP.out _ _ _ HF.out.1 HF.out.2 (OwnB.nil _ _)
          · have hl9 : low = 1 := by have h := HBl.out; rw [if_neg hav] at h; exact h.symm
            subst hl9
            have d4 : ((av : Int) == 0) = false := by simpa using hav
            clear HBl hav
            rcases hA2 with ⟨e1, rfl, rfl⟩ | ⟨j, rfl, hv, rfl⟩ | ⟨j, rfl, hv, rfl⟩
            · skip
              go_wp2_with (first
                | (go_at_call 32; have _t := tok0; (have ct := hNu.out _ gr _ _ HR 1 0 1 (by omega) (by omega)); rw [HB1.out] at ct; refine ct.mono ?_; clear ct; rintro e9 wa ⟨rfl, q, HRa⟩; (have O1 := own_keep O q (fun k hk e => by subst e; exact rx_ne HR O (by decide) hk.symm)); clear O; have O := O1; clear O1; replace gr := grown_trans gr q; clear q HR tok0; have HR := HRa; clear HRa; have p2 := (rx_cells HR).1; simp only [Er.num] at p2; have he1 := rx_err HR; (have d6 : ((e1 : Int) == 0) = false := by simpa using he1); clear he1; have tok1 : True := trivial)
                | (go_at_call 32; have _t := tok1; (have ct := hNu.out _ gr _ _ HR 4 1 (n - tl) (by omega) (by omega)); rw [HB3.out] at ct; refine ct.mono ?_; clear ct; rintro e3 wd ⟨rfl, q, HRa⟩; (have O1 := own_keep O q (fun k hk e => by subst e; exact rx_ne HR O (by decide) hk.symm)); clear O; have O := O1; clear O1; replace gr := grown_trans gr q; clear q HR tok1 p2; have HR := HRa; clear HRa; have he := rx_err HR; (have d7 : ((e : Int) != 0) = true := by simpa using he); clear he; have p2 := (rx_cells HR).1; simp only [Er.num] at p2; (have HF := Lib.hid (And.intro gr HR))))
              show Q (.returned (.slice none 0 0)) _
              have h := HPo.out
              subst h
              exact HP.out _ _ _ HF.out.1 HF.out.2 (OwnB.nil _ _)
            · have d5 : ((av : Int) == last) = true := by simpa using hv
              clear hv
              go_wp2_with (first
                | (go_at_call 32; have _t := tok0; (have ct := hNu.out _ gr _ _ HR 1 0 1 (by omega) (by omega)); rw [HB1.out] at ct; refine ct.mono ?_; clear ct; rintro e1 wa ⟨rfl, q, HRa⟩; (have O1 := own_keep O q (fun k hk e => by subst e; exact rx_ne HR O (by decide) hk.symm)); clear O; have O := O1; clear O1; replace gr := grown_trans gr q; clear q HR tok0; have HR := HRa; clear HRa; have p2 := (rx_cells HR).1; simp only [Er.num] at p2; have tok1 : True := trivial)
                | (go_at_call 53; refine (failRow g _ c L j tld dry 191 (by omega) _ HR).mono ?_; rintro e2 wb ⟨rfl, q, HRa⟩; (have O1 := own_keep O q (fun k hk e => by subst e; exact rx_ne HR O (by decide) hk.symm)); clear O; have O := O1; clear O1; replace gr := grown_trans gr q; clear q HR p2; have HR := HRa; clear HRa; have p2 := (rx_cells HR).1; simp only [Er.num] at p2)
                | (go_at_call 32; have _t := tok1; (have ct := hNu.out _ gr _ _ HR 4 1 (n - tl) (by omega) (by omega)); rw [HB3.out] at ct; refine ct.mono ?_; clear ct; rintro e3 wd ⟨rfl, q, HRa⟩; (have O1 := own_keep O q (fun k hk e => by subst e; exact rx_ne HR O (by decide) hk.symm)); clear O; have O := O1; clear O1; replace gr := grown_trans gr q; clear q HR tok1 p2; have HR := HRa; clear HRa; have he := rx_err HR; (have d7 : ((e : Int) != 0) = true := by simpa using he); clear he; have p2 := (rx_cells HR).1; simp only [Er.num] at p2; (have HF := Lib.hid (And.intro gr HR))))
              show Q (.returned (.slice none 0 0)) _
              have h := HPo.out
              subst h
              exact HP.out _ _ _ HF.out.1 HF.out.2 (OwnB.nil _ _)
            · have d5 : ((av : Int) == last) = false := by simpa using hv
              clear hv
              go_wp2_with (first
                | (go_at_call 32; have _t := tok0; (have ct := hNu.out _ gr _ _ HR 1 0 1 (by omega) (by omega)); rw [HB1.out] at ct; refine ct.mono ?_; clear ct; rintro e1 wa ⟨rfl, q, HRa⟩; (have O1 := own_keep O q (fun k hk e => by subst e; exact rx_ne HR O (by decide) hk.symm)); clear O; have O := O1; clear O1; replace gr := grown_trans gr q; clear q HR tok0; have HR := HRa; clear HRa; have p2 := (rx_cells HR).1; simp only [Er.num] at p2; have tok1 : True := trivial)
                | (go_at_call 32; have _t := tok1; (have ct := hNu.out _ gr _ _ HR 4 1 (n - tl) (by omega) (by omega)); rw [HB3.out] at ct; refine ct.mono ?_; clear ct; rintro e3 wd ⟨rfl, q, HRa⟩; (have O1 := own_keep O q (fun k hk e => by subst e; exact rx_ne HR O (by decide) hk.symm)); clear O; have O := O1; clear O1; replace gr := grown_trans gr q; clear q HR tok1 p2; have HR := HRa; clear HRa; have he := rx_err HR; (have d7 : ((e : Int) != 0) = true := by simpa using he); clear he; have p2 := (rx_cells HR).1; simp only [Er.num] at p2; (have HF := Lib.hid (And.intro gr HR))))
              show Q (.returned (.slice none 0 0)) _
              have h := HPo.out
              subst h
              exact HP.out _ _ _ HF.out.1 HF.out.2 (OwnB.nil _ _)
        · have hj2 := numX_low HB3.out
          have ha2 : ∃ j, a1 = .ok j ∧ av ≠ last ∧ a2 = .ok j := by
            rcases hA2 with ⟨e1, _, h⟩ | ⟨j, _, _, h⟩ | h
            · have h3 := HB3.out; rw [h, numX_error] at h3; simp at h3
            · have h3 := HB3.out; rw [h, numX_error] at h3; simp at h3
            · exact h
          clear hA2
          obtain ⟨j, rfl, hv, rfl⟩ := ha2
          have d5 : ((av : Int) == last) = false := by simpa using hv
          clear hv
          obtain ⟨kn, hkn⟩ : ∃ kn : Nat, kv = (kn : Int) := ⟨_, (Int.toNat_of_nonneg hkr.1).symm⟩
          subst hkn
          have hHD := HD2.out
          simp only [Int.toNat_natCast] at hHD
          clear HD2
          by_cases hav : av = 0
          · have hl9 : low = 16 := by have h := HBl.out; rw [if_pos hav] at h; exact h.symm
            subst hl9
            subst hav
            clear HBl
            rw [if_neg (by omega)] at hHD
            obtain ⟨zs, hzs⟩ : ∃ zs, List.replicate kn (0 : Int) = zs := ⟨_, rfl⟩
            have hzl : zs.length = kn := by rw [← hzs]; simp
            rw [hzs] at hHD
            have HZS := Lib.hid hzs
            clear hzs
            cases dry with
            | true =>
              have HD3 := Lib.hid hHD
              have HD3 : Hid (dataX L true n k (tl + (kn : Int)) out 0 (.ok j2) = PP) := Lib.hid (by simpa using hHD)
              clear hHD
              go_wp2_with (first
                | (go_at_call 32; have _t := tok0; (have ct := hNu.out _ gr _ _ HR 1 0 1 (by omega) (by omega)); rw [HB1.out] at ct; refine ct.mono ?_; clear ct; rintro e1 wa ⟨rfl, q, HRa⟩; (have O1 := own_keep O q (fun k hk e => by subst e; exact rx_ne HR O (by decide) hk.symm)); clear O; have O := O1; clear O1; replace gr := grown_trans gr q; clear q HR tok0; have HR := HRa; clear HRa; have p2 := (rx_cells HR).1; simp only [Er.num] at p2; have tok1 : True := trivial)
                | (go_at_call 32; have _t := tok1; (have ct := hNu.out _ gr _ _ HR 4 16 (n - tl) (by omega) (by omega)); rw [HB3.out] at ct; refine ct.mono ?_; clear ct; rintro e3 wd ⟨rfl, q, HRa⟩; (have O1 := own_keep O q (fun k hk e => by subst e; exact rx_ne HR O (by decide) hk.symm)); clear O; have O := O1; clear O1; replace gr := grown_trans gr q; clear q HR; have HR := HRa; clear HRa; clear tok1 p2; have p2 := (rx_cells HR).1; have p4 := (rx_cells HR).2; simp only [Er.num] at p2; obtain ⟨gm, hgm⟩ : ∃ gm, wd.heap.size = gm := ⟨_, rfl⟩; obtain ⟨wm, hm0, Om, qm⟩ := make_zeros 0 (by omega) w.heap.size wd gr.size; rw [hgm] at hm0; (have hm0' : (Instr.makeSlice 22 (.int .i64 0) (.int .i64 0)).run Tryd.prog wd = .ok (.slice (some ⟨gm, 0, none⟩) 0 0) wm := hm0); clear hm0 Om; (have O1 := World.ownsRow.kept O qm (by cases (Value.slice a out.length d).ownBlock <;> simp)); clear O; (have O : OwnB wm w.heap.size (.slice a out.length d) out := O1); clear O1; replace HR := HR.grown qm (by simp); replace gr := grown_own gr qm (fun i h => by cases h); clear qm; have p2' := (rx_cells HR).1; have p4' := (rx_cells HR).2; simp only [Er.num] at p2'))
              go_roundg k
              case measure => omega
              case rel => exact ⟨tl + (kn : Int), out, a, d, 0, .ok j2, HD3, by omega, by omega, by omega, by omega, rfl, rfl, rfl, by omega, by omega, Lib.hid gr, Lib.hid HR, Lib.hid O⟩
            | false =>
              have HD3 := Lib.hid hHD
              have HD3 : Hid (dataX L false n k (tl + (kn : Int)) (out ++ zs) 0 (.ok j2) = PP) := Lib.hid (by simpa using hHD)
              clear hHD
              go_wp2_with (first
                | (go_at_call 32; have _t := tok0; (have ct := hNu.out _ gr _ _ HR 1 0 1 (by omega) (by omega)); rw [HB1.out] at ct; refine ct.mono ?_; clear ct; rintro e1 wa ⟨rfl, q, HRa⟩; (have O1 := own_keep O q (fun k hk e => by subst e; exact rx_ne HR O (by decide) hk.symm)); clear O; have O := O1; clear O1; replace gr := grown_trans gr q; clear q HR tok0; have HR := HRa; clear HRa; have p2 := (rx_cells HR).1; simp only [Er.num] at p2; have tok1 : True := trivial)
                | (go_at_call 32; have _t := tok1; (have ct := hNu.out _ gr _ _ HR 4 16 (n - tl) (by omega) (by omega)); rw [HB3.out] at ct; refine ct.mono ?_; clear ct; rintro e3 wd ⟨rfl, q, HRa⟩; (have O1 := own_keep O q (fun k hk e => by subst e; exact rx_ne HR O (by decide) hk.symm)); clear O; have O := O1; clear O1; replace gr := grown_trans gr q; clear q HR; have HR := HRa; clear HRa; clear tok1 p2; have p2 := (rx_cells HR).1; have p4 := (rx_cells HR).2; simp only [Er.num] at p2; obtain ⟨gm, hgm⟩ : ∃ gm, wd.heap.size = gm := ⟨_, rfl⟩; obtain ⟨wm, hm0, Om, qm⟩ := make_zeros 0 (by omega) w.heap.size wd gr.size; rw [hgm] at hm0; (have hm0' : (Instr.makeSlice 22 (.int .i64 0) (.int .i64 0)).run Tryd.prog wd = .ok (.slice (some ⟨gm, 0, none⟩) 0 0) wm := hm0); clear hm0 Om; (have O1 := World.ownsRow.kept O qm (by cases (Value.slice a out.length d).ownBlock <;> simp)); clear O; (have O : OwnB wm w.heap.size (.slice a out.length d) out := O1); clear O1; replace HR := HR.grown qm (by simp); replace gr := grown_own gr qm (fun i h => by cases h); clear qm; have p2' := (rx_cells HR).1; have p4' := (rx_cells HR).2; simp only [Er.num] at p2'; obtain ⟨gz, hgz⟩ : ∃ gz, wm.heap.size = gz := ⟨_, rfl⟩; obtain ⟨wz, hmz, Oz, qz⟩ := make_zeros kn (by omega) w.heap.size wm gr.size; rw [hgz] at hmz Oz; rw [HZS.out] at Oz; (have O1 := World.ownsRow.kept O qz (by cases (Value.slice a out.length d).ownBlock <;> simp)); clear O; (have O : OwnB wz w.heap.size (.slice a out.length d) out := O1); clear O1; replace HR := HR.grown qz (by simp); replace gr := grown_own gr qz (fun i h => by cases h); clear qz; have p4'' := (rx_cells HR).2; (have hBz := (OwnB.at Oz).1); obtain ⟨v5, w5, hap, O5, q5, _⟩ := append_src Tryd.underlying22 hiy hzy hsy hyy rfl (by decide) 22 O (some ⟨gz, 0, none⟩) kn kn (zs.map (Value.int .u8)) (by have h := bytes_src (c := kn) hBz (fun e => by cases e); rw [hzl] at h; exact h) (by simp [hzl]) (map_one _) (by unfold maxLen; omega) (by omega) gr.size; have mR := rx_ne HR O (by decide); replace HR := HR.grown q5 mR; replace gr := grown_own gr q5 (fun k hk => (World.ownsRow.lt O k hk).1); clear mR q5 O; obtain ⟨a5, d5', rfl⟩ := own_form O5)
                | (at_builtin; refine wpList_append_run rfl _ _ 22 22 rfl (by simp [Act.eval]) (by simp [Act.eval]) hap ?_))
              go_roundg k
              case measure => omega
              case rel => exact ⟨tl + (kn : Int), out ++ zs, a5, d5', 0, .ok j2, HD3, by omega, by omega, by omega, by rw [List.length_append]; have := hzl; omega, by rw [List.length_append, hzl], rfl, rfl, by omega, by omega, Lib.hid gr, Lib.hid HR, Lib.hid (by unfold OwnB; rw [List.length_append, List.map_append, hzl]; exact O5)⟩
          · have hav1 : av = 1 := by omega
            have hl9 : low = 1 := by have h := HBl.out; rw [if_neg hav] at h; exact h.symm
            subst hl9
            subst hav1
            clear HBl hav
            rw [if_pos rfl] at hHD
            obtain ⟨⟨ts, t2⟩, bt⟩ : ∃ p, takeX L kn (.ok j2) = p := ⟨_, rfl⟩
            have htk := takeX_ok HBy.out kn (.ok j2)
            rw [bt] at hHD htk
            dsimp only at hHD htk
            have htl2 := htk.2.1
            have htl3 := htk.2.2
            have HT := Lib.hid bt
            obtain ⟨lb, hlb⟩ : ∃ b, ((last : Int) == 0) = b := ⟨_, rfl⟩
            obtain ⟨mb, hmb⟩ : ∃ b, decide (tl + (kn : Int) < n) = b := ⟨_, rfl⟩
            rw [show decide (last = 0) = lb from hlb, hmb] at hHD
            obtain ⟨ff, hff⟩ : ∃ b, filledB ts lb mb = b := ⟨_, rfl⟩
            rw [hff] at hHD
            have HFF := Lib.hid hff
            clear hff bt htk
            cases t2 with
            | error et =>
              cases dry with
              | true =>
                have HD3 : Hid (dataX L true n k (tl + (kn : Int)) out 1 (.error et) = PP) := Lib.hid (by simpa [orFail] using hHD)
                clear hHD
                go_wp2_with (first
                  | (go_at_call 32; have _t := tok0; (have ct := hNu.out _ gr _ _ HR 1 0 1 (by omega) (by omega)); rw [HB1.out] at ct; refine ct.mono ?_; clear ct; rintro e1 wa ⟨rfl, q, HRa⟩; (have O1 := own_keep O q (fun k hk e => by subst e; exact rx_ne HR O (by decide) hk.symm)); clear O; have O := O1; clear O1; replace gr := grown_trans gr q; clear q HR tok0; have HR := HRa; clear HRa; have p2 := (rx_cells HR).1; simp only [Er.num] at p2; have tok1 : True := trivial)
                  | (go_at_call 32; have _t := tok1; (have ct := hNu.out _ gr _ _ HR 4 1 (n - tl) (by omega) (by omega)); rw [HB3.out] at ct; refine ct.mono ?_; clear ct; rintro e3 wd ⟨rfl, q, HRa⟩; (have O1 := own_keep O q (fun k hk e => by subst e; exact rx_ne HR O (by decide) hk.symm)); clear O; have O := O1; clear O1; replace gr := grown_trans gr q; clear q HR; have HR := HRa; clear HRa; clear tok1 p2; have p2 := (rx_cells HR).1; have p4 := (rx_cells HR).2; simp only [Er.num] at p2; obtain ⟨gm, hgm⟩ : ∃ gm, wd.heap.size = gm := ⟨_, rfl⟩; obtain ⟨wm, hm0, Om, qm⟩ := make_zeros 0 (by omega) w.heap.size wd gr.size; rw [hgm] at hm0; (have hm0' : (Instr.makeSlice 22 (.int .i64 0) (.int .i64 0)).run Tryd.prog wd = .ok (.slice (some ⟨gm, 0, none⟩) 0 0) wm := hm0); clear hm0 Om; (have O1 := World.ownsRow.kept O qm (by cases (Value.slice a out.length d).ownBlock <;> simp)); clear O; (have O : OwnB wm w.heap.size (.slice a out.length d) out := O1); clear O1; replace HR := HR.grown qm (by simp); replace gr := grown_own gr qm (fun i h => by cases h); clear qm; have p2' := (rx_cells HR).1; have p4' := (rx_cells HR).2; simp only [Er.num] at p2')
                  | (go_at_call 33; (have ct := hTk.out _ gr _ _ HR kn (by omega)); rw [HT.out] at ct; refine ct.mono ?_; clear ct; rintro e4 we ⟨B, d2, rfl, hd2, hBn, hBg, hB, q, HRa⟩; (have O1 := own_keep O q (fun k hk e => by subst e; exact rx_ne HR O (by decide) hk.symm)); clear O; have O := O1; clear O1; replace gr := grown_trans gr q; clear q HR; have HR := HRa; clear HRa; clear p2' p4'; have p2 := (rx_cells HR).1; have p4 := (rx_cells HR).2; simp only [Er.num] at p2; have he := rx_err HR; (have d7 : ((et : Int) == 0) = false := by simpa using he); clear he))
                go_roundg k
                case measure => omega
                case rel => exact ⟨tl + (kn : Int), out, a, d, 1, .error et, HD3, by omega, by omega, by omega, by omega, rfl, rfl, rfl, by omega, by omega, Lib.hid gr, Lib.hid HR, Lib.hid O⟩
              | false =>
                have HD3 : Hid (dataX L false n k (tl + (kn : Int)) (out ++ ts) 1 (.error et) = PP) := Lib.hid (by simpa [orFail] using hHD)
                clear hHD
                go_wp2_with (first
                  | (go_at_call 32; have _t := tok0; (have ct := hNu.out _ gr _ _ HR 1 0 1 (by omega) (by omega)); rw [HB1.out] at ct; refine ct.mono ?_; clear ct; rintro e1 wa ⟨rfl, q, HRa⟩; (have O1 := own_keep O q (fun k hk e => by subst e; exact rx_ne HR O (by decide) hk.symm)); clear O; have O := O1; clear O1; replace gr := grown_trans gr q; clear q HR tok0; have HR := HRa; clear HRa; have p2 := (rx_cells HR).1; simp only [Er.num] at p2; have tok1 : True := trivial)
                  | (go_at_call 32; have _t := tok1; (have ct := hNu.out _ gr _ _ HR 4 1 (n - tl) (by omega) (by omega)); rw [HB3.out] at ct; refine ct.mono ?_; clear ct; rintro e3 wd ⟨rfl, q, HRa⟩; (have O1 := own_keep O q (fun k hk e => by subst e; exact rx_ne HR O (by decide) hk.symm)); clear O; have O := O1; clear O1; replace gr := grown_trans gr q; clear q HR; have HR := HRa; clear HRa; clear tok1 p2; have p2 := (rx_cells HR).1; have p4 := (rx_cells HR).2; simp only [Er.num] at p2; obtain ⟨gm, hgm⟩ : ∃ gm, wd.heap.size = gm := ⟨_, rfl⟩; obtain ⟨wm, hm0, Om, qm⟩ := make_zeros 0 (by omega) w.heap.size wd gr.size; rw [hgm] at hm0; (have hm0' : (Instr.makeSlice 22 (.int .i64 0) (.int .i64 0)).run Tryd.prog wd = .ok (.slice (some ⟨gm, 0, none⟩) 0 0) wm := hm0); clear hm0 Om; (have O1 := World.ownsRow.kept O qm (by cases (Value.slice a out.length d).ownBlock <;> simp)); clear O; (have O : OwnB wm w.heap.size (.slice a out.length d) out := O1); clear O1; replace HR := HR.grown qm (by simp); replace gr := grown_own gr qm (fun i h => by cases h); clear qm; have p2' := (rx_cells HR).1; have p4' := (rx_cells HR).2; simp only [Er.num] at p2')
                  | (go_at_call 33; (have ct := hTk.out _ gr _ _ HR kn (by omega)); rw [HT.out] at ct; refine ct.mono ?_; clear ct; rintro e4 we ⟨B, d2, rfl, hd2, hBn, hBg, hB, q, HRa⟩; (have O1 := own_keep O q (fun k hk e => by subst e; exact rx_ne HR O (by decide) hk.symm)); clear O; have O := O1; clear O1; replace gr := grown_trans gr q; clear q HR; have HR := HRa; clear HRa; clear p2' p4'; have p2 := (rx_cells HR).1; have p4 := (rx_cells HR).2; simp only [Er.num] at p2; have he := rx_err HR; (have d7 : ((et : Int) == 0) = false := by simpa using he); clear he; obtain ⟨v5, w5, hap, O5, q5, _⟩ := append_src Tryd.underlying22 hiy hzy hsy hyy rfl (by decide) 22 O B ts.length d2 (ts.map (Value.int .u8)) (bytes_src hB hBn) (by simp) (map_one _) (by unfold maxLen; omega) (by omega) gr.size; have mR := rx_ne HR O (by decide); replace HR := HR.grown q5 mR; replace gr := grown_own gr q5 (fun k hk => (World.ownsRow.lt O k hk).1); clear mR q5 O; obtain ⟨a5, d5', rfl⟩ := own_form O5)
                  | (at_builtin; refine wpList_append_run rfl _ _ 22 22 rfl (by simp [Act.eval]) (by simp [Act.eval]) hap ?_))
                go_roundg k
                case measure => omega
                case rel => exact ⟨tl + (kn : Int), out ++ ts, a5, d5', 1, .error et, HD3, by omega, by omega, by omega, by rw [List.length_append]; have := htl2; omega, by rw [List.length_append], rfl, rfl, by omega, by omega, Lib.hid gr, Lib.hid HR, Lib.hid (by unfold OwnB; rw [List.length_append, List.map_append]; exact O5)⟩
            | ok j3 =>
              cases ff with
              | true =>
                cases dry with
                | true =>
                  have HD3 : Hid (dataX L true n k (tl + (kn : Int)) out 1 (.ok j3) = PP) := Lib.hid (by simpa [orFail] using hHD)
                  clear hHD
                  go_wp2_with (first
                    | (go_at_call 32; have _t := tok0; (have ct := hNu.out _ gr _ _ HR 1 0 1 (by omega) (by omega)); rw [HB1.out] at ct; refine ct.mono ?_; clear ct; rintro e1 wa ⟨rfl, q, HRa⟩; (have O1 := own_keep O q (fun k hk e => by subst e; exact rx_ne HR O (by decide) hk.symm)); clear O; have O := O1; clear O1; replace gr := grown_trans gr q; clear q HR tok0; have HR := HRa; clear HRa; have p2 := (rx_cells HR).1; simp only [Er.num] at p2; have tok1 : True := trivial)
                    | (go_at_call 32; have _t := tok1; (have ct := hNu.out _ gr _ _ HR 4 1 (n - tl) (by omega) (by omega)); rw [HB3.out] at ct; refine ct.mono ?_; clear ct; rintro e3 wd ⟨rfl, q, HRa⟩; (have O1 := own_keep O q (fun k hk e => by subst e; exact rx_ne HR O (by decide) hk.symm)); clear O; have O := O1; clear O1; replace gr := grown_trans gr q; clear q HR; have HR := HRa; clear HRa; clear tok1 p2; have p2 := (rx_cells HR).1; have p4 := (rx_cells HR).2; simp only [Er.num] at p2; obtain ⟨gm, hgm⟩ : ∃ gm, wd.heap.size = gm := ⟨_, rfl⟩; obtain ⟨wm, hm0, Om, qm⟩ := make_zeros 0 (by omega) w.heap.size wd gr.size; rw [hgm] at hm0; (have hm0' : (Instr.makeSlice 22 (.int .i64 0) (.int .i64 0)).run Tryd.prog wd = .ok (.slice (some ⟨gm, 0, none⟩) 0 0) wm := hm0); clear hm0 Om; (have O1 := World.ownsRow.kept O qm (by cases (Value.slice a out.length d).ownBlock <;> simp)); clear O; (have O : OwnB wm w.heap.size (.slice a out.length d) out := O1); clear O1; replace HR := HR.grown qm (by simp); replace gr := grown_own gr qm (fun i h => by cases h); clear qm; have p2' := (rx_cells HR).1; have p4' := (rx_cells HR).2; simp only [Er.num] at p2')
                    | (go_at_call 33; (have ct := hTk.out _ gr _ _ HR kn (by omega)); rw [HT.out] at ct; refine ct.mono ?_; clear ct; rintro e4 we ⟨B, d2, rfl, hd2, hBn, hBg, hB, q, HRa⟩; (have O1 := own_keep O q (fun k hk e => by subst e; exact rx_ne HR O (by decide) hk.symm)); clear O; have O := O1; clear O1; replace gr := grown_trans gr q; clear q HR; have HR := HRa; clear HRa; clear p2' p4'; have p2 := (rx_cells HR).1; have p4 := (rx_cells HR).2; simp only [Er.num] at p2)
                    | (go_at_call 68; (have ct := hFi.out _ gr B d2 ts lb mb hB hd2 (by omega)); rw [HFF.out] at ct; refine ct.mono ?_; clear ct; rintro e5 wf ⟨rfl, q⟩; (have O1 := own_fr O q); clear O; (have O : OwnB wf w.heap.size (.slice a out.length d) out := O1); clear O1; replace HR := HR.fr q; replace gr := grown_fr gr q; replace hB := hB.fr q; clear q p2 p4; have p2 := (rx_cells HR).1; have p4 := (rx_cells HR).2; simp only [Er.num] at p2))
                  go_roundg k
                  case measure => omega
                  case rel => exact ⟨tl + (kn : Int), out, a, d, 1, .ok j3, HD3, by omega, by omega, by omega, by omega, rfl, rfl, rfl, by omega, by omega, Lib.hid gr, Lib.hid HR, Lib.hid O⟩
                | false =>
                  have HD3 : Hid (dataX L false n k (tl + (kn : Int)) (out ++ ts) 1 (.ok j3) = PP) := Lib.hid (by simpa [orFail] using hHD)
                  clear hHD
                  go_wp2_with (first
                    | (go_at_call 32; have _t := tok0; (have ct := hNu.out _ gr _ _ HR 1 0 1 (by omega) (by omega)); rw [HB1.out] at ct; refine ct.mono ?_; clear ct; rintro e1 wa ⟨rfl, q, HRa⟩; (have O1 := own_keep O q (fun k hk e => by subst e; exact rx_ne HR O (by decide) hk.symm)); clear O; have O := O1; clear O1; replace gr := grown_trans gr q; clear q HR tok0; have HR := HRa; clear HRa; have p2 := (rx_cells HR).1; simp only [Er.num] at p2; have tok1 : True := trivial)
                    | (go_at_call 32; have _t := tok1; (have ct := hNu.out _ gr _ _ HR 4 1 (n - tl) (by omega) (by omega)); rw [HB3.out] at ct; refine ct.mono ?_; clear ct; rintro e3 wd ⟨rfl, q, HRa⟩; (have O1 := own_keep O q (fun k hk e => by subst e; exact rx_ne HR O (by decide) hk.symm)); clear O; have O := O1; clear O1; replace gr := grown_trans gr q; clear q HR; have HR := HRa; clear HRa; clear tok1 p2; have p2 := (rx_cells HR).1; have p4 := (rx_cells HR).2; simp only [Er.num] at p2; obtain ⟨gm, hgm⟩ : ∃ gm, wd.heap.size = gm := ⟨_, rfl⟩; obtain ⟨wm, hm0, Om, qm⟩ := make_zeros 0 (by omega) w.heap.size wd gr.size; rw [hgm] at hm0; (have hm0' : (Instr.makeSlice 22 (.int .i64 0) (.int .i64 0)).run Tryd.prog wd = .ok (.slice (some ⟨gm, 0, none⟩) 0 0) wm := hm0); clear hm0 Om; (have O1 := World.ownsRow.kept O qm (by cases (Value.slice a out.length d).ownBlock <;> simp)); clear O; (have O : OwnB wm w.heap.size (.slice a out.length d) out := O1); clear O1; replace HR := HR.grown qm (by simp); replace gr := grown_own gr qm (fun i h => by cases h); clear qm; have p2' := (rx_cells HR).1; have p4' := (rx_cells HR).2; simp only [Er.num] at p2')
                    | (go_at_call 33; (have ct := hTk.out _ gr _ _ HR kn (by omega)); rw [HT.out] at ct; refine ct.mono ?_; clear ct; rintro e4 we ⟨B, d2, rfl, hd2, hBn, hBg, hB, q, HRa⟩; (have O1 := own_keep O q (fun k hk e => by subst e; exact rx_ne HR O (by decide) hk.symm)); clear O; have O := O1; clear O1; replace gr := grown_trans gr q; clear q HR; have HR := HRa; clear HRa; clear p2' p4'; have p2 := (rx_cells HR).1; have p4 := (rx_cells HR).2; simp only [Er.num] at p2)
                    | (go_at_call 68; (have ct := hFi.out _ gr B d2 ts lb mb hB hd2 (by omega)); rw [HFF.out] at ct; refine ct.mono ?_; clear ct; rintro e5 wf ⟨rfl, q⟩; (have O1 := own_fr O q); clear O; (have O : OwnB wf w.heap.size (.slice a out.length d) out := O1); clear O1; replace HR := HR.fr q; replace gr := grown_fr gr q; replace hB := hB.fr q; clear q p2 p4; have p2 := (rx_cells HR).1; have p4 := (rx_cells HR).2; simp only [Er.num] at p2; obtain ⟨v5, w5, hap, O5, q5, _⟩ := append_src Tryd.underlying22 hiy hzy hsy hyy rfl (by decide) 22 O B ts.length d2 (ts.map (Value.int .u8)) (bytes_src hB hBn) (by simp) (map_one _) (by unfold maxLen; omega) (by omega) gr.size; have mR := rx_ne HR O (by decide); replace HR := HR.grown q5 mR; replace gr := grown_own gr q5 (fun k hk => (World.ownsRow.lt O k hk).1); clear mR q5 O; obtain ⟨a5, d5', rfl⟩ := own_form O5)
                    | (at_builtin; refine wpList_append_run rfl _ _ 22 22 rfl (by simp [Act.eval]) (by simp [Act.eval]) hap ?_))
                  go_roundg k
                  case measure => omega
                  case rel => exact ⟨tl + (kn : Int), out ++ ts, a5, d5', 1, .ok j3, HD3, by omega, by omega, by omega, by rw [List.length_append]; have := htl2; omega, by rw [List.length_append], rfl, rfl, by omega, by omega, Lib.hid gr, Lib.hid HR, Lib.hid (by unfold OwnB; rw [List.length_append, List.map_append]; exact O5)⟩
              | false =>
                cases dry with
                | true =>
                  have HD3 : Hid (dataX L true n k (tl + (kn : Int)) out 1 (.error 191) = PP) := Lib.hid (by simpa [orFail] using hHD)
                  clear hHD
                  go_wp2_with (first
                    | (go_at_call 32; have _t := tok0; (have ct := hNu.out _ gr _ _ HR 1 0 1 (by omega) (by omega)); rw [HB1.out] at ct; refine ct.mono ?_; clear ct; rintro e1 wa ⟨rfl, q, HRa⟩; (have O1 := own_keep O q (fun k hk e => by subst e; exact rx_ne HR O (by decide) hk.symm)); clear O; have O := O1; clear O1; replace gr := grown_trans gr q; clear q HR tok0; have HR := HRa; clear HRa; have p2 := (rx_cells HR).1; simp only [Er.num] at p2; have tok1 : True := trivial)
                    | (go_at_call 32; have _t := tok1; (have ct := hNu.out _ gr _ _ HR 4 1 (n - tl) (by omega) (by omega)); rw [HB3.out] at ct; refine ct.mono ?_; clear ct; rintro e3 wd ⟨rfl, q, HRa⟩; (have O1 := own_keep O q (fun k hk e => by subst e; exact rx_ne HR O (by decide) hk.symm)); clear O; have O := O1; clear O1; replace gr := grown_trans gr q; clear q HR; have HR := HRa; clear HRa; clear tok1 p2; have p2 := (rx_cells HR).1; have p4 := (rx_cells HR).2; simp only [Er.num] at p2; obtain ⟨gm, hgm⟩ : ∃ gm, wd.heap.size = gm := ⟨_, rfl⟩; obtain ⟨wm, hm0, Om, qm⟩ := make_zeros 0 (by omega) w.heap.size wd gr.size; rw [hgm] at hm0; (have hm0' : (Instr.makeSlice 22 (.int .i64 0) (.int .i64 0)).run Tryd.prog wd = .ok (.slice (some ⟨gm, 0, none⟩) 0 0) wm := hm0); clear hm0 Om; (have O1 := World.ownsRow.kept O qm (by cases (Value.slice a out.length d).ownBlock <;> simp)); clear O; (have O : OwnB wm w.heap.size (.slice a out.length d) out := O1); clear O1; replace HR := HR.grown qm (by simp); replace gr := grown_own gr qm (fun i h => by cases h); clear qm; have p2' := (rx_cells HR).1; have p4' := (rx_cells HR).2; simp only [Er.num] at p2')
                    | (go_at_call 33; (have ct := hTk.out _ gr _ _ HR kn (by omega)); rw [HT.out] at ct; refine ct.mono ?_; clear ct; rintro e4 we ⟨B, d2, rfl, hd2, hBn, hBg, hB, q, HRa⟩; (have O1 := own_keep O q (fun k hk e => by subst e; exact rx_ne HR O (by decide) hk.symm)); clear O; have O := O1; clear O1; replace gr := grown_trans gr q; clear q HR; have HR := HRa; clear HRa; clear p2' p4'; have p2 := (rx_cells HR).1; have p4 := (rx_cells HR).2; simp only [Er.num] at p2)
                    | (go_at_call 68; (have ct := hFi.out _ gr B d2 ts lb mb hB hd2 (by omega)); rw [HFF.out] at ct; refine ct.mono ?_; clear ct; rintro e5 wf ⟨rfl, q⟩; (have O1 := own_fr O q); clear O; (have O : OwnB wf w.heap.size (.slice a out.length d) out := O1); clear O1; replace HR := HR.fr q; replace gr := grown_fr gr q; replace hB := hB.fr q; clear q p2 p4; have p2 := (rx_cells HR).1; have p4 := (rx_cells HR).2; simp only [Er.num] at p2)
                    | (go_at_call 53; refine (failRow g _ c L j3 tld true 191 (by omega) _ HR).mono ?_; rintro e6 wg ⟨rfl, q, HRa⟩; (have hB2 : ∀ a, B = some a → some a.block ≠ some g := fun a e k => hgb (by injection k with k; rw [← hBg a e]; exact k)); replace hB := hB.grown q hB2; (have O1 := own_keep O q (fun k hk e => by subst e; exact rx_ne HR O (by decide) hk.symm)); clear O; have O := O1; clear O1; replace gr := grown_trans gr q; clear q HR; have HR := HRa; clear HRa; clear p2 p4; have p2 := (rx_cells HR).1; have p4 := (rx_cells HR).2; simp only [Er.num] at p2))
                  go_roundg k
                  case measure => omega
                  case rel => exact ⟨tl + (kn : Int), out, a, d, 1, .error 191, HD3, by omega, by omega, by omega, by omega, rfl, rfl, rfl, by omega, by omega, Lib.hid gr, Lib.hid HR, Lib.hid O⟩
                | false =>
                  have HD3 : Hid (dataX L false n k (tl + (kn : Int)) (out ++ ts) 1 (.error 191) = PP) := Lib.hid (by simpa [orFail] using hHD)
                  clear hHD
                  go_wp2_with (first
                    | (go_at_call 32; have _t := tok0; (have ct := hNu.out _ gr _ _ HR 1 0 1 (by omega) (by omega)); rw [HB1.out] at ct; refine ct.mono ?_; clear ct; rintro e1 wa ⟨rfl, q, HRa⟩; (have O1 := own_keep O q (fun k hk e => by subst e; exact rx_ne HR O (by decide) hk.symm)); clear O; have O := O1; clear O1; replace gr := grown_trans gr q; clear q HR tok0; have HR := HRa; clear HRa; have p2 := (rx_cells HR).1; simp only [Er.num] at p2; have tok1 : True := trivial)
                    | (go_at_call 32; have _t := tok1; (have ct := hNu.out _ gr _ _ HR 4 1 (n - tl) (by omega) (by omega)); rw [HB3.out] at ct; refine ct.mono ?_; clear ct; rintro e3 wd ⟨rfl, q, HRa⟩; (have O1 := own_keep O q (fun k hk e => by subst e; exact rx_ne HR O (by decide) hk.symm)); clear O; have O := O1; clear O1; replace gr := grown_trans gr q; clear q HR; have HR := HRa; clear HRa; clear tok1 p2; have p2 := (rx_cells HR).1; have p4 := (rx_cells HR).2; simp only [Er.num] at p2; obtain ⟨gm, hgm⟩ : ∃ gm, wd.heap.size = gm := ⟨_, rfl⟩; obtain ⟨wm, hm0, Om, qm⟩ := make_zeros 0 (by omega) w.heap.size wd gr.size; rw [hgm] at hm0; (have hm0' : (Instr.makeSlice 22 (.int .i64 0) (.int .i64 0)).run Tryd.prog wd = .ok (.slice (some ⟨gm, 0, none⟩) 0 0) wm := hm0); clear hm0 Om; (have O1 := World.ownsRow.kept O qm (by cases (Value.slice a out.length d).ownBlock <;> simp)); clear O; (have O : OwnB wm w.heap.size (.slice a out.length d) out := O1); clear O1; replace HR := HR.grown qm (by simp); replace gr := grown_own gr qm (fun i h => by cases h); clear qm; have p2' := (rx_cells HR).1; have p4' := (rx_cells HR).2; simp only [Er.num] at p2')
                    | (go_at_call 33; (have ct := hTk.out _ gr _ _ HR kn (by omega)); rw [HT.out] at ct; refine ct.mono ?_; clear ct; rintro e4 we ⟨B, d2, rfl, hd2, hBn, hBg, hB, q, HRa⟩; (have O1 := own_keep O q (fun k hk e => by subst e; exact rx_ne HR O (by decide) hk.symm)); clear O; have O := O1; clear O1; replace gr := grown_trans gr q; clear q HR; have HR := HRa; clear HRa; clear p2' p4'; have p2 := (rx_cells HR).1; have p4 := (rx_cells HR).2; simp only [Er.num] at p2)
                    | (go_at_call 68; (have ct := hFi.out _ gr B d2 ts lb mb hB hd2 (by omega)); rw [HFF.out] at ct; refine ct.mono ?_; clear ct; rintro e5 wf ⟨rfl, q⟩; (have O1 := own_fr O q); clear O; (have O : OwnB wf w.heap.size (.slice a out.length d) out := O1); clear O1; replace HR := HR.fr q; replace gr := grown_fr gr q; replace hB := hB.fr q; clear q p2 p4; have p2 := (rx_cells HR).1; have p4 := (rx_cells HR).2; simp only [Er.num] at p2)
                    | (go_at_call 53; refine (failRow g _ c L j3 tld false 191 (by omega) _ HR).mono ?_; rintro e6 wg ⟨rfl, q, HRa⟩; (have hB2 : ∀ a, B = some a → some a.block ≠ some g := fun a e k => hgb (by injection k with k; rw [← hBg a e]; exact k)); replace hB := hB.grown q hB2; (have O1 := own_keep O q (fun k hk e => by subst e; exact rx_ne HR O (by decide) hk.symm)); clear O; have O := O1; clear O1; replace gr := grown_trans gr q; clear q HR; have HR := HRa; clear HRa; clear p2 p4; have p2 := (rx_cells HR).1; have p4 := (rx_cells HR).2; simp only [Er.num] at p2; obtain ⟨v5, w5, hap, O5, q5, _⟩ := append_src Tryd.underlying22 hiy hzy hsy hyy rfl (by decide) 22 O B ts.length d2 (ts.map (Value.int .u8)) (bytes_src hB hBn) (by simp) (map_one _) (by unfold maxLen; omega) (by omega) gr.size; have mR := rx_ne HR O (by decide); replace HR := HR.grown q5 mR; replace gr := grown_own gr q5 (fun k hk => (World.ownsRow.lt O k hk).1); clear mR q5 O; obtain ⟨a5, d5', rfl⟩ := own_form O5)
                    | (at_builtin; refine wpList_append_run rfl _ _ 22 22 rfl (by simp [Act.eval]) (by simp [Act.eval]) hap ?_))
                  go_roundg k
                  case measure => omega
                  case rel => exact ⟨tl + (kn : Int), out ++ ts, a5, d5', 1, .error 191, HD3, by omega, by omega, by omega, by rw [List.length_append]; have := htl2; omega, by rw [List.length_append], rfl, rfl, by omega, by omega, Lib.hid gr, Lib.hid HR, Lib.hid (by unfold OwnB; rw [List.length_append, List.map_append]; exact O5)⟩
end Go.Proofs.YtlnaeppbhjmocaaDoor
set_option linter.unusedSimpArgs false
set_option linter.unusedVariables false
namespace Go.Proofs.YtlnaeppbhjmocaaDoor
open Go.RowKit Go.Proofs Go.Proofs.YtlnaeppbhjmocaaDoorW.PrintWords Go.Proofs.YtlnaeppbhjmocaaDoorW.PrintMore

theorem set6all {w : World} {g : Nat} {t : TypeId} {o0 o1 o2 o3 o4 o5 : Value} (H : w.heap[g]? = some (.cells #[o0, o1, o2, o3, o4, o5] t (0, 0))) (v0 v1 v2 v3 v4 v5 : Value) :
    ∃ w', ((((((w.setCell ⟨g, 0, none⟩ v0).setCell ⟨g, 1, none⟩ v1).setCell ⟨g, 2, none⟩ v2).setCell ⟨g, 3, none⟩ v3).setCell ⟨g, 4, none⟩ v4).setCell ⟨g, 5, none⟩ v5) = w' ∧ w.grownBy w' (some g) ∧ w'.heap[g]? = some (.cells #[v0, v1, v2, v3, v4, v5] t (0, 0)) := by
  have h := set_last (set_last (set_last (set_last (set_last (set_last H 0 v0) 1 v1) 2 v2) 3 v3) 4 v4) 5 v5
  simp only [List.setIfInBounds_toArray, List.set_cons_zero, List.set_cons_succ] at h
  exact ⟨_, rfl, sets_grown (sets_grown (sets_grown (sets_grown (sets_grown (sets_grown (grown_refl w _) 0 v0) 1 v1) 2 v2) 3 v3) 4 v4) 5 v5, h⟩
/-- the names lie in block ga -/
def NR (w : World) (A : Option Addr) (ga : Nat) (ns : List ByteArray) : Prop := (ga = 0 ∨ ga < w.heap.size) ∧ ∀ i (h : i < ns.length), A = some ⟨ga, 0, none⟩ ∧ w.cell? ⟨ga, i, none⟩ = some (.string ns[i])
theorem NR.fr {w w' : World} {A : Option Addr} {ga : Nat} {ns : List ByteArray} (h : NR w A ga ns) (q : Fr w w') : NR w' A ga ns := ⟨h.1.imp id (fun k => Nat.lt_of_lt_of_le k q.size), fun i hi => ⟨(h.2 i hi).1, q.cell (h.2 i hi).2⟩⟩
theorem NR.grown {w w' : World} {A : Option Addr} {ga g : Nat} {ns : List ByteArray} (h : NR w A ga ns) (q : w.grownBy w' (some g)) (hne : ga ≠ g) : NR w' A ga ns := ⟨h.1.imp id (fun k => Nat.lt_of_lt_of_le k q.size), fun i hi =>
  ⟨(h.2 i hi).1, cell_grown (g := 0) q (h.2 i hi).2 (fun e => hne (by injection e))⟩⟩
theorem NR.at {w : World} {A : Option Addr} {ga : Nat} {ns : List ByteArray} (h : NR w A ga ns) (i : Nat) (hi : i < ns.length) : A = some ⟨ga, 0, none⟩ ∧ w.cell? ⟨ga, i, none⟩ = some (.string ns[i]) := h.2 i hi
theorem names_nr (ns : List ByteArray) (h : ∀ n ∈ ns, nameB n = true) (hd : ns.length ≤ 64) (hsz : (pathOf ns).size ≤ 1023) (w : World) (hw : Ok w) :
    Calls Tryd.prog 51 #[.string (pathOf ns)] w fun e w' => ∃ A c ga, e = .returned (.tuple #[.slice A ns.length c, .bool true]) ∧ NR w' A ga ns ∧ Fr w w' ∧ (ga = 0 ∨ w.heap.size ≤ ga) := by
  refine (names_go ns h hd hsz w hw).mono ?_
  rintro e w' ⟨A, c, rfl, HS, f, hA⟩
  by_cases h0 : 0 < ns.length
  · obtain ⟨ga, rfl, hc⟩ := HS 0 h0
    refine ⟨_, c, ga, rfl, ⟨.inr (World.block_lt_of_cell? w' _ hc), fun i hi => ?_⟩, f, .inr (hA _ rfl)⟩
    obtain ⟨g', hg', hc'⟩ := HS i hi
    injection hg' with hg'
    injection hg' with hg'
    subst hg'
    exact ⟨rfl, hc'⟩
  · exact ⟨A, c, 0, rfl, ⟨.inl rfl, fun i hi => absurd hi (by omega)⟩, f, .inl rfl⟩
end Go.Proofs.YtlnaeppbhjmocaaDoor
