/- append(b, make([]byte, m)...) to a row of the call's own. No conditions. -/
import Derived.Test.YtlnaeppbhjmocaaDoorU6
import Derived.Deep.DeepCutAuto
import Derived.Laws.BitsLemmas
import Derived.Deep.CutBlock
import Derived.Test.YtlnaeppbhjmocaaDoorCards
import Derived.Test.YtlnaeppbhjmocaaDoorTie
import Derived.ProofKit
import Derived.WideShapes
import Derived.Deep.DeepHandedRow
import Derived.Lib.LaidU8
import Derived.Lib.LaidTab
import Derived.OpenShut
import Derived.Deep.Slices
set_option linter.unusedSectionVars false
set_option linter.unnecessarySimpa false
set_option linter.unusedSimpArgs false
set_option linter.unusedVariables false
set_option linter.unusedSimpArgs false
set_option linter.unusedVariables false
namespace Go.Proofs.YtlnaeppbhjmocaaDoor
open Go.RowKit Go.Proofs Go.Proofs.YtlnaeppbhjmocaaDoorW.PrintWords Go.Proofs.YtlnaeppbhjmocaaDoorW.PrintMore

def badB (gt : ByteArray → ByteArray → Bool) (nm : ByteArray) (ns : List ByteArray) (k : Nat) (P : ByteArray) : Bool := !nameB nm || (decide (k < ns.length) && !gt nm (ns.getD k ⟨#[]⟩)) || decide (1023 < P.size)
theorem badB_iff {gt : ByteArray → ByteArray → Bool} {nm : ByteArray} {ns : List ByteArray} {k : Nat} {P : ByteArray} : badB gt nm ns k P = true ↔ (nameB nm = false ∨ (k < ns.length ∧ gt nm (ns.getD k ⟨#[]⟩) = false) ∨ 1023 < P.size) := by
  simp [badB, or_assoc]
section
variable {gt : ByteArray → ByteArray → Bool} {nm PN : ByteArray} {ns : List ByteArray} {k j : Nat} {L nb : List Int} {dry : Bool} {ty mo st : Int}
theorem leafE_bad (h : badB gt nm ns k PN = true) (hn : strOfNums nb = nm) (hp : pathOf (ns.take k ++ [nm]) = PN) : leafE gt L dry ns k ty mo st nb (.ok j) = ((⟨PN, ty, mo, st, [], ⟨#[]⟩⟩, ns.take k ++ [nm]), .error 191) := by
  subst hn; subst hp; simp only [leafE]; rw [if_pos (badB_iff.1 h)]
theorem not_bad (h : badB gt nm ns k PN = false) : ¬ (nameB nm = false ∨ (k < ns.length ∧ gt nm (ns.getD k ⟨#[]⟩) = false) ∨ 1023 < PN.size) := fun hh => by rw [badB_iff.2 hh] at h; cases h
theorem leafE_file (h : badB gt nm ns k PN = false) (hn : strOfNums nb = nm) (hp : pathOf (ns.take k ++ [nm]) = PN) : leafE gt L dry ns k 1 mo st nb (.ok j) = ((⟨PN, 1, mo, st, (dataR L dry (numX L 4 0 16777216 (.ok j)).1 (numX L 4 0 16777216 (.ok j)).2).1, ⟨#[]⟩⟩, ns.take k ++ [nm]), (dataR L dry (numX L 4 0 16777216 (.ok j)).1 (numX L 4 0 16777216 (.ok j)).2).2) := by
  subst hn; subst hp; simp only [leafE]; rw [if_neg (not_bad h), if_pos trivial]
theorem leafE_link (h : badB gt nm ns k PN = false) (hn : strOfNums nb = nm) (hp : pathOf (ns.take k ++ [nm]) = PN) : leafE gt L dry ns k 3 mo st nb (.ok j) = ((⟨PN, 3, mo, st, [], strOfNums (takeX L (numX L 1 1 127 (.ok j)).1.toNat (numX L 1 1 127 (.ok j)).2).1⟩, ns.take k ++ [nm]), orFail (takeX L (numX L 1 1 127 (.ok j)).1.toNat (numX L 1 1 127 (.ok j)).2).2 (!targetB (strOfNums (takeX L (numX L 1 1 127 (.ok j)).1.toNat (numX L 1 1 127 (.ok j)).2).1))) := by
  subst hn; subst hp; simp only [leafE]; rw [if_neg (not_bad h), if_neg (by decide), if_pos trivial]
theorem leafE_dir (h : badB gt nm ns k PN = false) (hn : strOfNums nb = nm) (hp : pathOf (ns.take k ++ [nm]) = PN) (h1 : ¬ ty = 1) (h3 : ¬ ty = 3) : leafE gt L dry ns k ty mo st nb (.ok j) = ((⟨PN, ty, mo, st, [], ⟨#[]⟩⟩, ns.take k ++ [nm]), .ok j) := by
  subst hn; subst hp; simp only [leafE]; rw [if_neg (not_bad h), if_neg h1, if_neg h3]
end
theorem OwnB.keep {w w' : World} {B : Nat} {v : Value} {xs : List Int} (h : OwnB w B v xs) {g : Nat} (q : w.grownBy w' (some g)) (hg : g < B) : OwnB w' B v xs :=
  own_keep h q (fun k hk => by have := (h.lt hk).1; omega)
def orBad (o : Er) (b : Bool) : Bool := match o with
  | .error _ => false
  | .ok _ => b
def gtB (a b : ByteArray) : Bool := !(Op.bytesLess a.toList b.toList || a.toList == b.toList)

set_option maxHeartbeats 25600000 in
set_option maxRecDepth 100000 in
theorem leaf_go (Q : Ending → World → Prop) (g gb ob c : Nat) (L : List Int) (o : Er) (told : Int) (dry : Bool) (w : World) (hw : Ok w) (H : RX w g (some ⟨gb, ob, none⟩) c L o told dry) (hA : BytesAt w (some ⟨gb, ob, none⟩) L) (hgb : gb ≠ g) (hb : bytesOk L) (hc : L.length ≤ c) (hL : L.length ≤ 1073741824) (hg : 4 ≤ g)
    (ns : List ByteArray) (hns : ∀ n ∈ ns, nameB n = true) (hd : ns.length ≤ 64) (hsz : (pathOf ns).size ≤ 1023) (ty mode : Int) (stamp : Int) (D : Value) (T : ByteArray) (hne : decide (ty = 2) = true ∨ ns ≠ [])
    (HP : Hid (∀ w' v told', w.grownBy w' (some g) → RX w' g (some ⟨gb, ob, none⟩) c L (leafX gtB L dry ns (decide (ty = 2)) o).2 told' dry → OwnB w' w.heap.size v (leafX gtB L dry ns (decide (ty = 2)) o).1.1.data →
      Q (.returned (.agg #[.string (leafX gtB L dry ns (decide (ty = 2)) o).1.1.path, .int .i64 (leafX gtB L dry ns (decide (ty = 2)) o).1.1.ty, .int .i64 (leafX gtB L dry ns (decide (ty = 2)) o).1.1.mode, .int .u64 (leafX gtB L dry ns (decide (ty = 2)) o).1.1.stamp, v, .string (leafX gtB L dry ns (decide (ty = 2)) o).1.1.tgt])) w')) :
    Calls Tryd.prog 31 #[.pointer (some ⟨g, 0, none⟩), .agg #[.string (pathOf ns), .int .i64 ty, .int .i64 mode, .int .u64 stamp, D, .string T]] w Q := by
  have hmr := mostX_rg hne
  have gr := grown_refl w (some g)
  have HR := H
  have hgS : ∀ a, ((some ⟨gb, ob, none⟩) : Option Addr) = some a → some a.block ≠ some g := fun a e k => by injection e with e; subst e; injection k with k; exact hgb k
  have hNu := Lib.hid (fun (W : World) (gr : w.grownBy W (some g)) o told HR s lo hi h1 h2 => numRow g gb ob c L o s lo hi told dry W (hw.grown hg gr) HR (hA.grown gr hgS) hgb hb h1 h2 hc hL hg)
  have hTk := Lib.hid (fun (W : World) (gr : w.grownBy W (some g)) o told HR k h1 => takeRow g gb ob c L o k told dry W (hw.grown hg gr) HR (hA.grown gr hgS) hgb h1 hc hL hg)
  have hNm := Lib.hid (fun (W : World) (gr : w.grownBy W (some g)) => names_nr ns hns hd hsz W (hw.grown hg gr))
  obtain ⟨X, hX⟩ : ∃ X, leafX gtB L dry ns (decide (ty = 2)) o = X := ⟨_, rfl⟩
  rw [hX] at HP
  obtain ⟨mo, hmo⟩ : ∃ m, mostX ns (decide (ty = 2)) = m := ⟨_, rfl⟩
  rw [hmo] at hmr
  obtain ⟨m1, hm1⟩ : ∃ m : Int, (ns.length : Int) - (if ty = 2 then 0 else 1) = m := ⟨_, rfl⟩
  have hmx : (if m1 > 63 then 63 else m1) = mo := by
    rw [← hmo, ← hm1]; unfold mostX; by_cases h : ty = 2 <;> simp [h]
  have hm1r : 0 ≤ m1 ∧ m1 ≤ ns.length := by
    have h0 : ty = 2 ∨ 0 < ns.length := hne.imp (fun h => by simpa using h) (fun h => List.length_pos_iff.mpr h)
    rw [← hm1]; split <;> omega
  have hmons : mo ≤ ns.length := by rw [← hmx]; split <;> omega
  obtain ⟨w1, g1, hg1, hw1, f, hz1, H1⟩ := boxedN hw #[.string (pathOf ns), .int .i64 ty, .int .i64 mode, .int .u64 stamp, D, .string T] 45
  obtain ⟨w2, g2, hg2, hw2, f2, hz2, H2⟩ := boxedN f.ok #[.string ⟨#[]⟩, .int .i64 0, .int .i64 0, .int .u64 0, .slice none 0 0, .string ⟨#[]⟩] 45
  replace H1 := f2.heap H1
  replace f := f.trans f2
  replace HR := HR.fr f
  replace gr := fr_grown f (some g)
  have z1 := (blk6 H1).1
  have l2 : w.heap.size ≤ g2 := by have := f2.size; omega
  have hgw : g < w.heap.size := by obtain ⟨_, _, _, _, h⟩ := H; exact (Array.getElem?_eq_some_iff.mp h).1
  have hq2 : g2 ≠ g := by omega
  have hsw := f.size
  clear f2
  obtain ⟨⟨k, o1⟩, b1⟩ : ∃ p, numX L 1 0 mo o = p := ⟨_, rfl⟩
  have hk := numX_rg (L := L) (low := 0) (high := mo) (.inl (by omega)) hmr.1 1 o hb
  obtain ⟨⟨t', o2⟩, b2⟩ : ∃ p, numX L 1 1 3 o1 = p := ⟨_, rfl⟩
  have ht := numX_rg (L := L) (low := 1) (high := 3) (.inr trivial) (by omega) 1 o1 hb
  rw [b1] at hk
  rw [b2] at ht
  dsimp only at hk ht
  obtain ⟨⟨m', o3⟩, b3⟩ : ∃ p, numX L 2 0 4095 o2 = p := ⟨_, rfl⟩
  have hmd := numX_rg (L := L) (low := 0) (high := 4095) (.inr trivial) (by omega) 2 o2 hb
  rw [b3] at hmd
  dsimp only at hmd
  obtain ⟨⟨s', o4⟩, b4⟩ : ∃ p, numX L 8 0 18446744073709551615 o3 = p := ⟨_, rfl⟩
  obtain ⟨⟨l', o5⟩, b5⟩ : ∃ p, numX L 1 1 63 o4 = p := ⟨_, rfl⟩
  have hld := numX_rg (L := L) (low := 1) (high := 63) (.inr trivial) (by omega) 1 o4 hb
  rw [b5] at hld
  dsimp only at hld
  obtain ⟨kk, hkk⟩ : ∃ n : Nat, k = (n : Int) := ⟨_, (Int.toNat_of_nonneg hk.1).symm⟩
  obtain ⟨ll, hll⟩ : ∃ n : Nat, l' = (n : Int) := ⟨_, (Int.toNat_of_nonneg hld.1).symm⟩
  subst hkk hll
  obtain ⟨⟨nb, o6⟩, b6⟩ : ∃ p, takeX L ll o5 = p := ⟨_, rfl⟩
  have hnb := takeX_ok hb ll o5
  rw [b6] at hnb
  dsimp only at hnb
  have hXX : leafX gtB L dry ns (decide (ty = 2)) o = leafE gtB L dry ns kk t' m' s' nb o6 := by
    unfold leafX leafE
    simp only [hmo, b1, b2, b3, b4, b5, b6, Int.toNat_natCast]
    cases o6 <;> rfl
  have HX := Lib.hid (hXX.symm.trans hX)
  have HB1 := Lib.hid b1
  have HB2 := Lib.hid b2
  have HB3 := Lib.hid b3
  have HB4 := Lib.hid b4
  have HB5 := Lib.hid b5
  have HB6 := Lib.hid b6
  have HMO := Lib.hid hmo
  have HNB := Lib.hid hnb.1
  obtain ⟨nm, hnm⟩ : ∃ s, strOfNums nb = s := ⟨_, rfl⟩
  have HNM := Lib.hid hnm
  have hs2 : nm.size ≤ 63 := by rw [← hnm, str_size]; omega
  clear hnm
  have hnb2 : nb.length ≤ ll := hnb.2.1
  have HM1 := Lib.hid hm1
  have HMX := Lib.hid hmx
  have wmd : IntKind.i64.wrap m' = m' := IntWalk.i64_in _ ⟨by omega, by omega⟩
  have wld : IntKind.i64.wrap (ll : Int) = (ll : Int) := IntWalk.i64_in _ ⟨by omega, by omega⟩
  have wk : IntKind.i64.wrap (kk : Int) = (kk : Int) := IntWalk.i64_in _ ⟨by omega, by omega⟩
  have wt : IntKind.i64.wrap t' = t' := IntWalk.i64_in _ ⟨by omega, by omega⟩
  have HBy := Lib.hid hb
  have HNS := Lib.hid hns
  have hps0 := fun i => Nat.le_trans (pathSt_size ns i) hsz
  have HPS := Lib.hid hps0
  clear hps0 hsz b1 b2 b3 b4 b5 b6 hX hXX hmo hm1 hmx hnb hns H hne hz1 hz2 hb
  have tok0 : True := trivial
  go_enter Tryd.func31, Tryd.ntmps31
  go_upto_if 23 with (go_at_call 51; refine (hNm.out _ gr).mono ?_; rintro e wn ⟨A, cn, ga, rfl, HN, q, hga0⟩; have hga : ga ≠ g := (by omega); replace H1 := q.heap H1; replace H2 := q.heap H2; replace HR := HR.fr q; replace gr := grown_fr gr q; clear q z1 tok0 f; have z2 := (blk6 H1).2.1)
  go_cut [7] (fun v7 wc => v7 = .int .i64 m1 ∧ wc = wn)
  case first =>
    by_cases hty : ty = 2
    · have d0 : (ty != 2) = false := by simp [hty]
      have hv : (ns.length : Int) = m1 := by rw [← HM1.out, if_pos hty]; omega
      have HV := Lib.hid hv
      clear hv hty
      go_wp2_with fail
      go_meet
      exact ⟨by rw [HV.out], rfl⟩
    · have d0 : (ty != 2) = true := by simp [hty]
      have hv : (ns.length : Int) - 1 = m1 := by rw [← HM1.out, if_neg hty]
      have hv0 : (1 : Int) ≤ ns.length := by omega
      have HV := Lib.hid hv
      clear hv hty
      go_wp2_with fail
      go_meet
      exact ⟨by rw [HV.out], rfl⟩
  case rest =>
    obtain ⟨rfl, rfl⟩ := hcut
    clear z2 H1
    obtain ⟨bb, hbb⟩ : ∃ b, decide (63 < m1) = b := ⟨_, rfl⟩
    go_upto_if 27 with fail
    go_cut [7] (fun v7 wc' => v7 = .int .i64 mo ∧ wc' = wc)
    case first =>
      cases bb with
      | true =>
        have hv : (63 : Int) = mo := by rw [← HMX.out, if_pos (by simpa using hbb)]
        have HV := Lib.hid hv
        clear hv hbb
        go_wp2_with fail
        go_meet
        exact ⟨by rw [← HV.out], rfl⟩
      | false =>
        have hv : m1 = mo := by rw [← HMX.out, if_neg (by simpa using hbb)]
        have HV := Lib.hid hv
        clear hv hbb
        go_wp2_with fail
        go_meet
        exact ⟨by rw [← HV.out], rfl⟩
    case rest =>
      obtain ⟨rfl, rfl⟩ := hcut
      have tok1 : True := trivial
      go_upto_if 54 with (first
        | (go_at_call 32; have _t := tok1; go_loud (have ct := hNu.out _ gr _ _ HR 1 0 mo (by omega) (by omega)); rw [HB1.out] at ct; refine ct.mono ?_; clear ct; rintro e wa ⟨rfl, q, HRa⟩; replace H2 := grown_blk' q H2 (fun k => hq2 (by injection k)); replace HN := HN.grown q hga; replace gr := grown_trans gr q; clear q HR; have HR := HRa; clear HRa; clear tok1; have tok2 : True := trivial)
        | (go_at_call 32; have _t := tok2; go_loud (have ct := hNu.out _ gr _ _ HR 1 1 3 (by omega) (by omega)); rw [HB2.out] at ct; refine ct.mono ?_; clear ct; rintro e wa ⟨rfl, q, HRa⟩; replace H2 := grown_blk' q H2 (fun k => hq2 (by injection k)); replace HN := HN.grown q hga; replace gr := grown_trans gr q; clear q HR; have HR := HRa; clear HRa; clear tok2; have tok3 : True := trivial)
        | (go_at_call 32; have _t := tok3; go_loud (obtain ⟨w3, g3, hg3, hw3, f3, hz3, H3⟩ := boxedN (hw.grown hg gr) #[.string ⟨#[]⟩, .int .i64 t', .int .i64 0, .int .u64 0, .slice none 0 0, .string ⟨#[]⟩] 45; rw [hw3, hg3]; have l3 : w.heap.size ≤ g3 := (by have := gr.size; omega); have hq3 : g3 ≠ g := (by omega); have n2 : g2 ≠ g3 := (by have := (Array.getElem?_eq_some_iff.mp H2).1; omega)); go_loud (have hga3 : ga ≠ g3 := (by have := HN.1; have := gr.size; omega)); go_loud (replace H2 := f3.heap H2; replace HR := HR.fr f3; replace HN := HN.fr f3; replace gr := grown_fr gr f3; clear f3); go_loud (have ct := hNu.out _ gr _ _ HR 2 0 4095 (by omega) (by omega)); rw [HB3.out] at ct; refine ct.mono ?_; clear ct; rintro e wm ⟨rfl, q, HRa⟩; replace H2 := grown_blk' q H2 (fun k => hq2 (by injection k)); replace HN := HN.grown q hga; replace gr := grown_trans gr q; replace H3 := grown_blk' q H3 (fun k => hq3 (by injection k)); clear q HR; have HR := HRa; clear HRa; clear tok3; have tok4 : True := trivial; have y3 := unfroz H3 2; have y3c := (blk6 H3).2.2.1; obtain ⟨wb, hwb, HM, q⟩ := set_grown H3 2 (.int .i64 m'); simp only [List.setIfInBounds_toArray, List.set_cons_zero, List.set_cons_succ] at HM; replace gr := grown_own gr q (fun i h => by injection h with h; omega); replace HR := HR.grown q (fun h => hq3 (by injection h with h; exact h.symm)); replace H2 := grown_blk' q H2 (fun k => n2 (by injection k)); replace HN := HN.grown q hga3; clear q H3; have H3 := HM; clear HM)
        | (go_at_call 32; have _t := tok4; go_loud (have ct := hNu.out _ gr _ _ HR 8 0 18446744073709551615 (by omega) (by omega)); rw [HB4.out] at ct; refine ct.mono ?_; clear ct; rintro e wm2 ⟨rfl, q, HRa⟩; clear y3 y3c hwb tok4; replace H2 := grown_blk' q H2 (fun k => hq2 (by injection k)); replace HN := HN.grown q hga; replace gr := grown_trans gr q; replace H3 := grown_blk' q H3 (fun k => hq3 (by injection k)); clear q HR; have HR := HRa; clear HRa; have tok5 : True := trivial; have y4 := unfroz H3 3; have y4c := (blk6 H3).2.2.2.1; obtain ⟨wb2, hwb2, HM, q⟩ := set_grown H3 3 (.int .u64 s'); simp only [List.setIfInBounds_toArray, List.set_cons_zero, List.set_cons_succ] at HM; replace gr := grown_own gr q (fun i h => by injection h with h; omega); replace HR := HR.grown q (fun h => hq3 (by injection h with h; exact h.symm)); replace H2 := grown_blk' q H2 (fun k => n2 (by injection k)); replace HN := HN.grown q hga3; clear q H3; have H3 := HM; clear HM)
        | (go_at_call 32; have _t := tok5; go_loud (have ct := hNu.out _ gr _ _ HR 1 1 63 (by omega) (by omega)); rw [HB5.out] at ct; refine ct.mono ?_; clear ct; rintro e wm3 ⟨rfl, q, HRa⟩; clear y4 y4c hwb2 tok5; replace H2 := grown_blk' q H2 (fun k => hq2 (by injection k)); replace HN := HN.grown q hga; replace gr := grown_trans gr q; replace H3 := grown_blk' q H3 (fun k => hq3 (by injection k)); clear q HR; have HR := HRa; clear HRa; have tok6 : True := trivial)
        | (go_at_call 33; have _t := tok6; (have ct := hTk.out _ gr _ _ HR ll (by omega)); rw [HB6.out] at ct; dsimp only at ct; go_loud (refine ct.mono ?_); clear ct; rintro e wn2 ⟨B, dn, rfl, hdn, hdn2, _, hBn, q, HRa⟩; go_loud (replace H2 := grown_blk' q H2 (fun k => hq2 (by injection k)); replace HN := HN.grown q hga; replace gr := grown_trans gr q; replace H3 := grown_blk' q H3 (fun k => hq3 (by injection k)); clear q HR; have HR := HRa; clear HRa); clear tok6; go_loud (have hcv := conv_str wn2 hBn (by omega) dn); rw [HNM.out] at hcv; have e2 := (rx_cells HR).1))
      have HSv := Lib.hid hcv
      clear hcv _t
      by_cases hoe : ∃ e, o6 = .error e
      · obtain ⟨e, rfl⟩ := hoe
        have d2 : (Er.num (.error e) != 0) = true := by simpa [Er.num] using rx_err HR
        obtain ⟨y0, y1, y2, y3, y4, y5⟩ := blk6 H3; obtain ⟨i0, i1, i2, i3, i4, i5⟩ := blk6 H2; have z0 := unfroz H2 0; have z1 := unfroz H2 1; have z2 := unfroz H2 2; have z3 := unfroz H2 3; have z4 := unfroz H2 4; have z5 := unfroz H2 5; obtain ⟨w9, hw9, q9, H29⟩ := set6all H2 (.string ⟨#[]⟩) (.int .i64 t') (.int .i64 m') (.int .u64 s') (.slice none 0 0) (.string ⟨#[]⟩); (have HF := Lib.hid (And.intro (grown_own gr q9 (fun i h => by injection h with h; omega)) (And.intro (HR.grown q9 (fun h => hq2 (by injection h with h; exact h.symm))) (And.intro q9 H29)))); clear gr HR q9 H29 H2 H3
        go_wp2_with fail
        refine bodyPost_ret (results_cell_row rfl _ _ g2 45 _ (0, 0) _ rfl HF.out.2.2.2 Tryd.underlying45 rfl (by kernel_rfl)) rfl ?_
        have hx := HX.out
        simp only [leafE] at hx
        subst hx
        exact HP.out _ _ _ HF.out.1 HF.out.2.1 (OwnB.nil _ _)
      · obtain ⟨j, rfl⟩ : ∃ j, o6 = .ok j := by cases o6 with
          | error e => exact absurd ⟨e, rfl⟩ hoe
          | ok j => exact ⟨j, rfl⟩
        clear hoe
        have d2 : (Er.num (.ok j) != 0) = false := rfl
        go_wp2_with fail
        go_loop [11, 12] (fun v11 v12 => ∃ i : Nat, i ≤ kk ∧ v11 = .string (pathSt ns i) ∧ v12 = .int .i64 i) (fun _ v12 => kk - (intOf v12).toNat)
        case atStart => exact ⟨0, Nat.zero_le _, by rw [pathSt_zero], rfl⟩
        case round =>
          obtain ⟨i, hi, rfl, rfl⟩ := hrel
          by_cases hlt : i < kk
          · have hil : i < ns.length := by omega
            obtain ⟨rfl, hcell⟩ := HN.at i hil
            have hps := pathSt_succ ns i hil
            have hs1 := HPS.out i
            have hs3 : ns[i].size ≤ 63 := by have := (nameB_all (HNS.out _ (List.getElem_mem hil))).2.2.2.1; exact this
            have d1 : decide ((i : Int) < (kk : Int)) = true := decide_eq_true (by omega)
            clear e2
            go_wp2
            trace_state
            go_round
            case rel => exact ⟨i + 1, by omega, rfl, by go_num⟩
            case measure => simp [intOf]; omega
          · obtain rfl : i = kk := by omega
            have d1 : decide ((i : Int) < (i : Int)) = false := decide_eq_false (by omega)
            have hpl := pathSt_last ns i nm
            obtain ⟨PN, hPN⟩ : ∃ P, pathOf (ns.take i ++ [nm]) = P := ⟨_, rfl⟩
            rw [hPN] at hpl
            have HPN := Lib.hid hPN
            clear hPN
            have hs1 := HPS.out i
            have y5 := unfroz H3 0
            have y5c := (blk6 H3).1
            obtain ⟨wb4, hwb4, HM, q⟩ := set_grown H3 0 (.string PN); simp only [List.setIfInBounds_toArray, List.set_cons_zero, List.set_cons_succ] at HM; replace gr := grown_own gr q (fun i h => by injection h with h; omega); replace HR := HR.grown q (fun h => hq3 (by injection h with h; exact h.symm)); replace H2 := grown_blk' q H2 (fun k => n2 (by injection k)); replace HN := HN.grown q hga3; clear q H3; have H3 := HM; clear HM
            have y0 := (blk6 H3).1
            obtain ⟨bd, hbd⟩ : ∃ b, badB gtB nm ns i PN = b := ⟨_, rfl⟩
            have HBD := Lib.hid hbd
            clear hbd
            go_upto_region 20 with fail
            go_cut [95] (fun v95 wc => v95 = .bool bd ∧ Fr wb4 wc)
            case first =>
              have hok := hw.grown hg gr
              have HN' := Lib.hid HN
              clear H2 H3 gr HR HN y5 y5c hwb4 e2 hpl
              cases hnB : nameB nm with
              | false =>
                have hb9 : badB gtB nm ns i PN = true := badB_iff.2 (.inl hnB)
                have HB9 := Lib.hid hb9
                clear hb9
                go_wp2_with (go_at_call 52; (have ct := name_any nm _ hok); rw [hnB] at ct; simp only [Bool.false_eq_true, if_false] at ct; (with_reducible refine ct.mono ?_); rintro e wx ⟨rfl, q⟩; (have HQ := Lib.hid q); clear ct q)
                go_meet
                exact ⟨by rw [← HBD.out, HB9.out], HQ.out⟩
              | true =>
                have ct0 := name_any nm wb4 hok
                rw [if_pos hnB] at ct0
                have HCT := Lib.hid ct0
                have HnB := Lib.hid hnB
                clear ct0 hok hnB
                by_cases hkl : i < ns.length
                · have d3 : decide ((i : Int) < (ns.length : Int)) = true := decide_eq_true (by omega)
                  obtain ⟨rfl, hcell⟩ := HN'.out.at i hkl
                  have hgd : ns.getD i ⟨#[]⟩ = ns[i] := by simp [List.getD, hkl]
                  have d4 : (0 : Int) ≤ (i : Int) := by omega
                  have d5 : (i : Int) < (ns.length : Int) := by omega
                  by_cases hgt : gtB nm ns[i] = true
                  · have d6 : (Op.bytesLess nm.toList ns[i].toList || nm.toList == ns[i].toList) = false := by simpa [gtB] using hgt
                    by_cases h1023 : 1023 < PN.size
                    · have d7 : decide (1023 < (PN.size : Int)) = true := decide_eq_true (by omega)
                      have HB9 : Hid (badB gtB nm ns i PN = true) := Lib.hid (badB_iff.2 (.inr (.inr h1023)))
                      clear hgt h1023 hgd
                      go_wp2_with (go_at_call 52; (with_reducible refine HCT.out.mono ?_); rintro e wx ⟨rfl, q⟩; replace y0 := q.cell y0; replace hcell := q.cell hcell; (have HQ := Lib.hid q); clear q)
                      trace_state
                      go_meet
                      exact ⟨by rw [← HBD.out, HB9.out], HQ.out⟩
                    · have d7 : decide (1023 < (PN.size : Int)) = false := decide_eq_false (by omega)
                      have HB9 : Hid (badB gtB nm ns i PN = false) := Lib.hid (by
                        rw [Bool.eq_false_iff]; intro h; rcases badB_iff.1 h with h | ⟨_, h⟩ | h
                        · rw [HnB.out] at h; cases h
                        · rw [hgd, hgt] at h; cases h
                        · exact h1023 h)
                      clear hgt h1023 hgd
                      go_wp2_with (go_at_call 52; (with_reducible refine HCT.out.mono ?_); rintro e wx ⟨rfl, q⟩; replace y0 := q.cell y0; replace hcell := q.cell hcell; (have HQ := Lib.hid q); clear q)
                      go_meet
                      exact ⟨by rw [← HBD.out, HB9.out], HQ.out⟩
                  · have d6 : (Op.bytesLess nm.toList ns[i].toList || nm.toList == ns[i].toList) = true := Bool.of_not_eq_false (fun h => hgt (by unfold gtB; rw [h]; rfl))
                    have HB9 : Hid (badB gtB nm ns i PN = true) := Lib.hid (badB_iff.2 (.inr (.inl ⟨hkl, by rw [hgd]; simpa using hgt⟩)))
                    clear hgt hgd
                    go_wp2_with (go_at_call 52; (with_reducible refine HCT.out.mono ?_); rintro e wx ⟨rfl, q⟩; replace y0 := q.cell y0; replace hcell := q.cell hcell; (have HQ := Lib.hid q); clear q)
                    go_meet
                    exact ⟨by rw [← HBD.out, HB9.out], HQ.out⟩
                · have d3 : decide ((i : Int) < (ns.length : Int)) = false := decide_eq_false (by omega)
                  by_cases h1023 : 1023 < PN.size
                  · have d7 : decide (1023 < (PN.size : Int)) = true := decide_eq_true (by omega)
                    have HB9 : Hid (badB gtB nm ns i PN = true) := Lib.hid (badB_iff.2 (.inr (.inr h1023)))
                    clear h1023
                    go_wp2_with (go_at_call 52; (with_reducible refine HCT.out.mono ?_); rintro e wx ⟨rfl, q⟩; replace y0 := q.cell y0; (have HQ := Lib.hid q); clear q)
                    go_meet
                    exact ⟨by rw [← HBD.out, HB9.out], HQ.out⟩
                  · have d7 : decide (1023 < (PN.size : Int)) = false := decide_eq_false (by omega)
                    have HB9 : Hid (badB gtB nm ns i PN = false) := Lib.hid (by
                      rw [Bool.eq_false_iff]; intro h; rcases badB_iff.1 h with h | ⟨h, _⟩ | h
                      · rw [HnB.out] at h; cases h
                      · exact hkl h
                      · exact h1023 h)
                    clear h1023
                    go_wp2_with (go_at_call 52; (with_reducible refine HCT.out.mono ?_); rintro e wx ⟨rfl, q⟩; replace y0 := q.cell y0; (have HQ := Lib.hid q); clear q)
                    go_meet
                    exact ⟨by rw [← HBD.out, HB9.out], HQ.out⟩
            case rest =>
              obtain ⟨rfl, q⟩ := hcut
              replace H2 := q.heap H2
              replace H3 := q.heap H3
              replace HR := HR.fr q
              replace gr := grown_fr gr q
              clear q y5 y5c hwb4 y0 hpl HN e2
              rcases Bool.eq_false_or_eq_true bd with rfl | rfl
              · have hx := (leafE_bad (L := L) (dry := dry) (ty := t') (mo := m') (st := s') (j := j) HBD.out HNM.out HPN.out).symm.trans HX.out
                have HXX := Lib.hid hx
                have HFl := Lib.hid (failRow g (some ⟨gb, ob, none⟩) c L j told dry 191 (by decide) wc HR)
                clear hx HR
                go_wp2_with (go_at_call 53; refine HFl.out.mono ?_; rintro x wf ⟨rfl, q, HR⟩; replace H2 := grown_blk' q H2 (fun k => hq2 (by injection k)); replace gr := grown_trans gr q; replace H3 := grown_blk' q H3 (fun k => hq3 (by injection k)); clear q; obtain ⟨y0, y1, y2, y3, y4, y5⟩ := blk6 H3; obtain ⟨i0, i1, i2, i3, i4, i5⟩ := blk6 H2; have z0 := unfroz H2 0; have z1 := unfroz H2 1; have z2 := unfroz H2 2; have z3 := unfroz H2 3; have z4 := unfroz H2 4; have z5 := unfroz H2 5; obtain ⟨w9, hw9, q9, H29⟩ := set6all H2 (.string PN) (.int .i64 t') (.int .i64 m') (.int .u64 s') (.slice none 0 0) (.string ⟨#[]⟩); (have HF := Lib.hid (And.intro (grown_own gr q9 (fun i h => by injection h with h; omega)) (And.intro (HR.grown q9 (fun h => hq2 (by injection h with h; exact h.symm))) (And.intro q9 H29)))); clear gr HR q9 H29 H2 H3)
                refine bodyPost_ret (results_cell_row rfl _ _ g2 45 _ (0, 0) _ rfl HF.out.2.2.2 Tryd.underlying45 rfl (by kernel_rfl)) rfl ?_
                have hx := HXX.out
                subst hx
                exact HP.out _ _ _ HF.out.1 HF.out.2.1 (OwnB.nil _ _)
              · have hb3 := HBD
                have t1 := (blk6 H3).2.1
                by_cases h1 : t' = 1
                · subst h1
                  obtain ⟨⟨nn, on⟩, e1⟩ : ∃ p, numX L 4 0 16777216 (.ok j) = p := ⟨_, rfl⟩
                  obtain ⟨⟨dl, od⟩, e3⟩ : ∃ p, dataR L dry nn on = p := ⟨_, rfl⟩
                  have hx := (leafE_file (L := L) (dry := dry) (mo := m') (st := s') (j := j) hb3.out HNM.out HPN.out).symm.trans HX.out
                  simp only [e1, e3] at hx
                  have HXX := Lib.hid hx
                  have hda := data_go (fun e w' => ∃ v told', e = Ending.returned v ∧ wc.grownBy w' (some g) ∧ RX w' g (some ⟨gb, ob, none⟩) c L od told' dry ∧ OwnB w' wc.heap.size v dl) g gb ob c L (.ok j) told dry wc (hw.grown hg gr) HR (hA.grown gr hgS) hgb HBy.out hc hL hg
                    (Lib.hid (by rw [e1]; dsimp only; rw [e3]; exact fun w' v told' h1 h2 h3 => ⟨v, told', rfl, h1, h2, h3⟩))
                  have HDa := Lib.hid hda
                  have HX1 := Lib.hid (And.intro (Array.getElem?_eq_some_iff.1 H2).1 (Array.getElem?_eq_some_iff.1 H3).1)
                  have gsz := Lib.hid gr.size
                  clear hda hx e1 e3 HR
                  go_wp2_with (go_at_call 54; refine HDa.out.mono ?_; rintro x wf ⟨v, told', rfl, q, HR, HO⟩; (obtain ⟨va, vd, rfl⟩ := HO.form); replace H2 := grown_blk' q H2 (fun k => hq2 (by injection k)); replace H3 := grown_blk' q H3 (fun k => hq3 (by injection k)); (have HW := Lib.hid q.size); replace gr := grown_trans gr q; clear q t1; have u4 := unfroz H3 4; have u4c := (blk6 H3).2.2.2.2.1; replace HO := Lib.hid HO; (obtain ⟨wb5, hwb5, HM, q⟩ := set_grown H3 4 (.slice va dl.length vd)); simp only [List.setIfInBounds_toArray, List.set_cons_zero, List.set_cons_succ] at HM; replace gr := grown_own gr q (fun i h => by injection h with h; omega); replace HR := HR.grown q (fun h => hq3 (by injection h with h; exact h.symm)); replace H2 := grown_blk' q H2 (fun k => n2 (by injection k)); (have HO2 := Lib.hid (HO.out.keep q HX1.out.2)); clear q H3; have H3 := HM; clear HM; obtain ⟨y0, y1, y2, y3, y4, y5⟩ := blk6 H3; obtain ⟨i0, i1, i2, i3, i4, i5⟩ := blk6 H2; have z0 := unfroz H2 0; have z1 := unfroz H2 1; have z2 := unfroz H2 2; have z3 := unfroz H2 3; have z4 := unfroz H2 4; have z5 := unfroz H2 5; obtain ⟨w9, hw9, q9, H29⟩ := set6all H2 (.string PN) (.int .i64 1) (.int .i64 m') (.int .u64 s') (.slice va dl.length vd) (.string ⟨#[]⟩); (have HF := Lib.hid (And.intro (grown_own gr q9 (fun i h => by injection h with h; omega)) (And.intro (HR.grown q9 (fun h => hq2 (by injection h with h; exact h.symm))) (And.intro q9 H29)))); clear gr HR q9 H29 H2 H3)
                  refine bodyPost_ret (results_cell_row rfl _ _ g2 45 _ (0, 0) _ rfl HF.out.2.2.2 Tryd.underlying45 rfl (by kernel_rfl)) rfl ?_
                  have hx := HXX.out
                  subst hx
                  exact HP.out _ _ _ HF.out.1 HF.out.2.1 ((HO2.out.keep HF.out.2.2.1 HX1.out.1).low (by have := HW.out; have := gsz.out; omega))
                · have d8 : (t' == 1) = false := by simpa using h1
                  by_cases h3 : t' = 3
                  · subst h3
                    have hnr := numX_rg (L := L) (low := 1) (high := 127) (.inr trivial) (by omega) 1 (.ok j) HBy.out
                    obtain ⟨⟨nn, on⟩, e1⟩ : ∃ p, numX L 1 1 127 (.ok j) = p := ⟨_, rfl⟩
                    rw [e1] at hnr
                    dsimp only at hnr
                    obtain ⟨nt, hnt⟩ : ∃ n : Nat, nn = (n : Int) := ⟨_, (Int.toNat_of_nonneg hnr.1).symm⟩
                    subst hnt
                    have htk := takeX_ok HBy.out nt on
                    obtain ⟨⟨tb, ot⟩, e3⟩ : ∃ p, takeX L nt on = p := ⟨_, rfl⟩
                    rw [e3] at htk
                    obtain ⟨tg, htg⟩ : ∃ s, strOfNums tb = s := ⟨_, rfl⟩
                    have hx := (leafE_link (L := L) (dry := dry) (mo := m') (st := s') (j := j) hb3.out HNM.out HPN.out).symm.trans HX.out
                    simp only [e1, e3, Int.toNat_natCast, htg] at hx
                    have HXX := Lib.hid hx
                    have E1 := Lib.hid e1
                    have E3 := Lib.hid e3
                    have HTG := Lib.hid htg
                    have htl : tb.length ≤ nt := htk.2.1
                    have wnt : IntKind.i64.wrap (nt : Int) = (nt : Int) := IntWalk.i64_in _ ⟨by omega, by omega⟩
                    have tok7 : True := trivial
                    obtain ⟨obb, hob⟩ : ∃ b, orBad ot (!targetB tg) = b := ⟨_, rfl⟩
                    have HOB := Lib.hid hob
                    clear htk hx e1 e3 htg h1 hob
                    go_upto_region 28 with (first
                      | (go_at_call 32; have _t := tok7; go_loud (have ct := hNu.out _ gr _ _ HR 1 1 127 (by omega) (by omega)); rw [E1.out] at ct; refine ct.mono ?_; clear ct; rintro e wm5 ⟨rfl, q, HRa⟩; replace H2 := grown_blk' q H2 (fun k => hq2 (by injection k)); replace H3 := grown_blk' q H3 (fun k => hq3 (by injection k)); replace gr := grown_trans gr q; clear q HR; have HR := HRa; clear HRa; clear tok7 t1)
                      | (go_at_call 33; (have ct := hTk.out _ gr _ _ HR nt (by omega)); rw [E3.out] at ct; dsimp only at ct; refine ct.mono ?_; clear ct; rintro e wn5 ⟨B5, dn5, rfl, hdn5, _, _, hBn5, q, HRa⟩; replace H2 := grown_blk' q H2 (fun k => hq2 (by injection k)); replace H3 := grown_blk' q H3 (fun k => hq3 (by injection k)); replace gr := grown_trans gr q; clear q HR; have HR := HRa; clear HRa; go_loud (have hcv := conv_str wn5 hBn5 (by omega) dn5); rw [HTG.out] at hcv; have u5 := unfroz H3 5; have u5c := (blk6 H3).2.2.2.2.2; obtain ⟨wb6, hwb6, HM, q⟩ := set_grown H3 5 (.string tg); simp only [List.setIfInBounds_toArray, List.set_cons_zero, List.set_cons_succ] at HM; replace gr := grown_own gr q (fun i h => by injection h with h; omega); replace HR := HR.grown q (fun h => hq3 (by injection h with h; exact h.symm)); replace H2 := grown_blk' q H2 (fun k => n2 (by injection k)); clear q H3; have H3 := HM; clear HM))
                    clear hcv u5 u5c hwb6
                    go_cut [125] (fun v125 wc' => v125 = .bool obb ∧ Fr wb6 wc')
                    case first =>
                      have e6 := (rx_cells HR).1
                      have x5 := (blk6 H3).2.2.2.2.2
                      have hok := hw.grown hg gr
                      by_cases hoe : ∃ e, ot = .error e
                      · obtain ⟨e, rfl⟩ := hoe
                        have d2 : (Er.num (.error e) == 0) = false := by simpa [Er.num] using rx_err HR
                        clear H2 H3 gr HR
                        go_wp2_with fail
                        go_meet
                        exact ⟨by rw [← HOB.out]; rfl, Fr.refl hok⟩
                      · obtain ⟨j2, rfl⟩ : ∃ j, ot = .ok j := by cases ot with
                          | error e => exact absurd ⟨e, rfl⟩ hoe
                          | ok j => exact ⟨j, rfl⟩
                        have d2 : (Er.num (.ok j2) == 0) = true := rfl
                        have HCT := Lib.hid (target_any tg wb6 hok)
                        clear H2 H3 gr HR hoe hok
                        go_wp2_with (go_at_call 55; (with_reducible refine HCT.out.mono ?_); rintro e wx ⟨rfl, q⟩; (have HQ := Lib.hid q); clear q)
                        go_meet
                        exact ⟨by rw [← HOB.out]; rfl, HQ.out⟩
                    case rest =>
                      obtain ⟨rfl, q⟩ := hcut
                      replace H2 := q.heap H2
                      replace H3 := q.heap H3
                      replace HR := HR.fr q
                      replace gr := grown_fr gr q
                      clear q
                      rcases Bool.eq_false_or_eq_true obb with rfl | rfl
                      · have hob := HOB.out
                        have hot : ∃ j2, ot = .ok j2 ∧ targetB tg = false := by
                          cases ot with
                          | error e => simp [orBad] at hob
                          | ok j2 => exact ⟨j2, rfl, by simpa [orBad] using hob⟩
                        clear hob
                        obtain ⟨j2, rfl, htb⟩ := hot
                        have hx := HXX.out
                        simp only [orFail, htb, Bool.not_false, if_true] at hx
                        have HX3 := Lib.hid hx
                        have HFl := Lib.hid (failRow g (some ⟨gb, ob, none⟩) c L j2 told dry 191 (by decide) wc HR)
                        clear hx HR htb
                        go_wp2_with (go_at_call 53; refine HFl.out.mono ?_; rintro x wf ⟨rfl, q, HR⟩; replace H2 := grown_blk' q H2 (fun k => hq2 (by injection k)); replace H3 := grown_blk' q H3 (fun k => hq3 (by injection k)); replace gr := grown_trans gr q; clear q; obtain ⟨y0, y1, y2, y3, y4, y5⟩ := blk6 H3; obtain ⟨i0, i1, i2, i3, i4, i5⟩ := blk6 H2; have z0 := unfroz H2 0; have z1 := unfroz H2 1; have z2 := unfroz H2 2; have z3 := unfroz H2 3; have z4 := unfroz H2 4; have z5 := unfroz H2 5; obtain ⟨w9, hw9, q9, H29⟩ := set6all H2 (.string PN) (.int .i64 3) (.int .i64 m') (.int .u64 s') (.slice none 0 0) (.string tg); (have HF := Lib.hid (And.intro (grown_own gr q9 (fun i h => by injection h with h; omega)) (And.intro (HR.grown q9 (fun h => hq2 (by injection h with h; exact h.symm))) (And.intro q9 H29)))); clear gr HR q9 H29 H2 H3)
                        refine bodyPost_ret (results_cell_row rfl _ _ g2 45 _ (0, 0) _ rfl HF.out.2.2.2 Tryd.underlying45 rfl (by kernel_rfl)) rfl ?_
                        have hx := HX3.out
                        subst hx
                        exact HP.out _ _ _ HF.out.1 HF.out.2.1 (OwnB.nil _ _)
                      · have hob2 := HOB.out
                        have hot : orFail ot (!targetB tg) = ot := by
                          cases ot with
                          | error e => rfl
                          | ok j2 => simp only [orBad] at hob2; simp only [orFail, hob2]; rfl
                        have hx := HXX.out
                        rw [hot] at hx
                        have HX3 := Lib.hid hx
                        clear hx hot hob2
                        obtain ⟨y0, y1, y2, y3, y4, y5⟩ := blk6 H3; obtain ⟨i0, i1, i2, i3, i4, i5⟩ := blk6 H2; have z0 := unfroz H2 0; have z1 := unfroz H2 1; have z2 := unfroz H2 2; have z3 := unfroz H2 3; have z4 := unfroz H2 4; have z5 := unfroz H2 5; obtain ⟨w9, hw9, q9, H29⟩ := set6all H2 (.string PN) (.int .i64 3) (.int .i64 m') (.int .u64 s') (.slice none 0 0) (.string tg); (have HF := Lib.hid (And.intro (grown_own gr q9 (fun i h => by injection h with h; omega)) (And.intro (HR.grown q9 (fun h => hq2 (by injection h with h; exact h.symm))) (And.intro q9 H29)))); clear gr HR q9 H29 H2 H3
                        go_wp2_with fail
                        refine bodyPost_ret (results_cell_row rfl _ _ g2 45 _ (0, 0) _ rfl HF.out.2.2.2 Tryd.underlying45 rfl (by kernel_rfl)) rfl ?_
                        have hx := HX3.out
                        subst hx
                        exact HP.out _ _ _ HF.out.1 HF.out.2.1 (OwnB.nil _ _)
                  · have d9 : (t' == 3) = false := by simpa using h3
                    have hx := (leafE_dir (L := L) (dry := dry) (mo := m') (st := s') (j := j) hb3.out HNM.out HPN.out h1 h3).symm.trans HX.out
                    have HXX := Lib.hid hx
                    clear hx h1 h3 t1
                    obtain ⟨y0, y1, y2, y3, y4, y5⟩ := blk6 H3; obtain ⟨i0, i1, i2, i3, i4, i5⟩ := blk6 H2; have z0 := unfroz H2 0; have z1 := unfroz H2 1; have z2 := unfroz H2 2; have z3 := unfroz H2 3; have z4 := unfroz H2 4; have z5 := unfroz H2 5; obtain ⟨w9, hw9, q9, H29⟩ := set6all H2 (.string PN) (.int .i64 t') (.int .i64 m') (.int .u64 s') (.slice none 0 0) (.string ⟨#[]⟩); (have HF := Lib.hid (And.intro (grown_own gr q9 (fun i h => by injection h with h; omega)) (And.intro (HR.grown q9 (fun h => hq2 (by injection h with h; exact h.symm))) (And.intro q9 H29)))); clear gr HR q9 H29 H2 H3
                    go_wp2_with fail
                    refine bodyPost_ret (results_cell_row rfl _ _ g2 45 _ (0, 0) _ rfl HF.out.2.2.2 Tryd.underlying45 rfl (by kernel_rfl)) rfl ?_
                    have hx := HXX.out
                    subst hx
                    exact HP.out _ _ _ HF.out.1 HF.out.2.1 (OwnB.nil _ _)
end Go.Proofs.YtlnaeppbhjmocaaDoor
set_option linter.unusedSimpArgs false
set_option linter.unusedVariables false
namespace Go.Proofs.YtlnaeppbhjmocaaDoor
open Go.RowKit Go.Proofs Go.Proofs.YtlnaeppbhjmocaaDoorW.PrintWords Go.Proofs.YtlnaeppbhjmocaaDoorW.PrintMore

theorem takeX_on {L : List Int} {n j : Nat} {o : Er} (h : (takeX L n o).2 = .ok j) : ∃ i, o = .ok i ∧ j = i + n ∧ j ≤ L.length := by
  cases o with
  | error e => simp [takeX] at h
  | ok i =>
    simp only [takeX] at h
    split at h
    · injection h with h; exact ⟨i, rfl, by omega, by omega⟩
    · cases h
theorem numX_on {L : List Int} {n j : Nat} {lo hi : Int} {o : Er} (h : (numX L n lo hi o).2 = .ok j) : ∃ i, o = .ok i ∧ j = i + n ∧ j ≤ L.length := by
  cases ht : takeX L n o with
  | mk bs o1 =>
    cases o1 with
    | error e => unfold numX at h; rw [ht] at h; cases h
    | ok j' =>
      have : j' = j := by
        unfold numX at h
        rw [ht] at h
        dsimp only at h
        split at h <;> injection h
      subst this
      exact takeX_on (n := n) (by rw [ht])
theorem orFail_on {o : Er} {b : Bool} {j : Nat} (h : orFail o b = .ok j) : o = .ok j := (orFail_ok h).1
theorem dataX_on {L : List Int} {dry : Bool} {n : Int} : ∀ (f : Nat) {told : Int} {out : List Int} {last : Int} {o : Er} {j : Nat}, (dataX L dry n f told out last o).2 = .ok j → ∃ i, o = .ok i ∧ i ≤ j ∧ (i ≤ L.length → j ≤ L.length)
  | 0, told, out, last, o, j, h => ⟨j, h, Nat.le_refl _, id⟩
  | f + 1, told, out, last, .error e, j, h => by simp [dataX] at h
  | f + 1, told, out, last, .ok i, j, h => by
    refine ⟨i, rfl, ?_⟩
    simp only [dataX] at h
    split at h
    · rename_i hlt
      obtain ⟨a, ha⟩ : ∃ a, numX L 1 0 1 (.ok i) = a := ⟨_, rfl⟩
      rw [ha] at h
      obtain ⟨k, hk⟩ : ∃ k, numX L 4 (if a.1 = 0 then 16 else 1) (n - told) (orFail a.2 (decide (a.1 = last))) = k := ⟨_, rfl⟩
      rw [hk] at h
      cases hk2 : k.2 with
      | error e => rw [hk2] at h; cases h
      | ok j1 =>
        rw [hk2] at h
        dsimp only at h
        obtain ⟨i2, e2, e3, e4⟩ := numX_on (n := 4) (j := j1) (by rw [hk]; exact hk2)
        have e5 := orFail_on e2
        obtain ⟨i3, e6, e7, e8⟩ := numX_on (n := 1) (j := i2) (by rw [ha]; exact e5)
        injection e6 with e6
        subst e6
        split at h
        · obtain ⟨i4, f1, f2, f3⟩ := dataX_on f h
          have f4 := orFail_on f1
          obtain ⟨i5, f5, f6, f7⟩ := takeX_on f4
          injection f5 with f5
          exact ⟨by omega, fun _ => f3 f7⟩
        · obtain ⟨i4, f1, f2, f3⟩ := dataX_on f h
          injection f1 with f1
          exact ⟨by omega, fun _ => f3 (by omega)⟩
    · injection h with h
      subst h
      exact ⟨Nat.le_refl _, id⟩
/-- a leaf read takes some bytes -/
theorem leafX_on {gt : ByteArray → ByteArray → Bool} {L : List Int} {dry : Bool} {ahead : List ByteArray} {dir : Bool} {o : Er} {j : Nat} (h : (leafX gt L dry ahead dir o).2 = .ok j) : ∃ i, o = .ok i ∧ i < j ∧ j ≤ L.length := by
  unfold leafX at h
  obtain ⟨k, hk⟩ : ∃ k, numX L 1 0 (mostX ahead dir) o = k := ⟨_, rfl⟩
  obtain ⟨ty, hty⟩ : ∃ q, numX L 1 1 3 k.2 = q := ⟨_, rfl⟩
  obtain ⟨mo, hmo⟩ : ∃ k, numX L 2 0 4095 ty.2 = k := ⟨_, rfl⟩
  obtain ⟨st, hst⟩ : ∃ k, numX L 8 0 18446744073709551615 mo.2 = k := ⟨_, rfl⟩
  obtain ⟨nl, hnl⟩ : ∃ k, numX L 1 1 63 st.2 = k := ⟨_, rfl⟩
  obtain ⟨nm, hnm⟩ : ∃ k, takeX L nl.1.toNat nl.2 = k := ⟨_, rfl⟩
  rw [hk] at h
  dsimp only at h
  rw [hty] at h
  rw [hmo] at h
  rw [hst] at h
  rw [hnl] at h
  rw [hnm] at h
  have key : ∀ j', nm.2 = .ok j' → ∃ i, o = .ok i ∧ i < j' ∧ j' ≤ L.length := fun j' h' => by
    obtain ⟨i1, e1, a1, b1⟩ := takeX_on (j := j') (by rw [hnm]; exact h')
    obtain ⟨i2, e2, a2, b2⟩ := numX_on (j := i1) (by rw [hnl]; exact e1)
    obtain ⟨i3, e3, a3, b3⟩ := numX_on (j := i2) (by rw [hst]; exact e2)
    obtain ⟨i4, e4, a4, b4⟩ := numX_on (j := i3) (by rw [hmo]; exact e3)
    obtain ⟨i5, e5, a5, b5⟩ := numX_on (j := i4) (by rw [hty]; exact e4)
    obtain ⟨i6, e6, a6, b6⟩ := numX_on (j := i5) (by rw [hk]; exact e5)
    exact ⟨i6, e6, by omega, b1⟩
  clear hk hty hmo hst hnl hnm
  cases hnm2 : nm.2 with
  | error e => rw [hnm2] at h; cases h
  | ok j' =>
    obtain ⟨i, e1, a1, b1⟩ := key j' hnm2
    refine ⟨i, e1, ?_⟩
    rw [hnm2] at h
    dsimp only at h
    split at h
    · cases h
    · split at h
      · obtain ⟨i2, e2, a2, b2⟩ := dataX_on _ h
        obtain ⟨i3, e3, a3, b3⟩ := numX_on e2
        injection e3 with e3
        exact ⟨by omega, b2 b3⟩
      · split at h
        · obtain ⟨i2, e2, a2, b2⟩ := takeX_on (orFail_on h)
          obtain ⟨i3, e3, a3, b3⟩ := numX_on e2
          injection e3 with e3
          exact ⟨by omega, b2⟩
        · injection h with h
          subst h
          exact ⟨a1, b1⟩
theorem treeX_error (gt : ByteArray → ByteArray → Bool) (L : List Int) (dry : Bool) (f : Nat) (acc : List Lf) (ns : List ByteArray) (dir : Bool) (e : Int) : treeX gt L dry f acc ns dir (.error e) = (acc, .error e) := by
  cases f <;> rfl
theorem treeX_stop (gt : ByteArray → ByteArray → Bool) (L : List Int) (dry : Bool) (f : Nat) (acc : List Lf) (ns : List ByteArray) (dir : Bool) (i : Nat) (h : ¬ (i < L.length ∧ L.getD i 0 ≠ 255)) : treeX gt L dry f acc ns dir (.ok i) = (acc, .ok i) := by
  cases f with
  | zero => rfl
  | succ f => simp only [treeX]; rw [if_neg h]
/-- the last leaf of a reading that goes on -/
structure Good (ns : List ByteArray) (ty : Int) : Prop where
  names : ∀ n ∈ ns, nameB n = true
  deep : ns.length ≤ 64
  size : (pathOf ns).size ≤ 1023
  dir : decide (ty = 2) = true ∨ ns ≠ []
theorem good_root : Good [] 2 := ⟨fun n h => by simp at h, by simp, by simp [pathOf, ByteArray.size], .inl rfl⟩
theorem leafX_Good {gt : ByteArray → ByteArray → Bool} {L : List Int} {dry : Bool} {ahead : List ByteArray} {ty : Int} {o : Er} {lf : Lf} {ns : List ByteArray} {j : Nat} (hb : bytesOk L) (ha : Good ahead ty)
    (h : leafX gt L dry ahead (decide (ty = 2)) o = ((lf, ns), .ok j)) : lf.path = pathOf ns ∧ Good ns lf.ty := by
  obtain ⟨h1, h2, h3, h4, h5⟩ := leafX_good hb ha.names ha.dir h
  exact ⟨h1, h2, h3, h4, .inr h5⟩

/-! ### Leaves in memory -/
theorem bytes_cell {w : World} {gb ob : Nat} {L : List Int} (hA : BytesAt w (some ⟨gb, ob, none⟩) L) (i : Nat) (h : i < L.length) : w.cell? ⟨gb, ob + i, none⟩ = some (.int .u8 (L.getD i 0)) := by
  rcases hA with h' | ⟨g', o', e, _, h'⟩
  · rw [h'] at h; simp at h
  · injection e with e; injection e with e1 e2; subst e1 e2
    rw [show L.getD i 0 = L[i] by simp [List.getD, h]]; exact h' i _ (List.getElem?_eq_getElem h)
def lcell (p : Lf × Value) : List Value := [.string p.1.path, .int .i64 p.1.ty, .int .i64 p.1.mode, .int .u64 p.1.stamp, p.2, .string p.1.tgt]
def lflat (tv : List (Lf × Value)) : List Value := (tv.map lcell).flatten
theorem lflat_snoc (tv : List (Lf × Value)) (p : Lf × Value) : lflat (tv ++ [p]) = lflat tv ++ lcell p := by simp [lflat]
theorem lcell_len (tv : List (Lf × Value)) : ∀ c ∈ tv.map lcell, c.length = 6 := fun c hc => by obtain ⟨p, _, rfl⟩ := List.mem_map.1 hc; rfl
theorem lflat_length (tv : List (Lf × Value)) : (lflat tv).length = tv.length * 6 := by
  have := flat_length (lcell_len tv); simpa [lflat] using this
/-- each leaf's data, a row of the call's own -/
def LO (w : World) (B : Nat) (tv : List (Lf × Value)) : Prop := ∀ p ∈ tv, OwnB w B p.2 p.1.data
theorem LO.nil (w : World) (B : Nat) : LO w B [] := fun p h => by simp at h
theorem LO.fr {w w' : World} {B : Nat} {tv : List (Lf × Value)} (h : LO w B tv) (q : Fr w w') : LO w' B tv := fun p hp => (h p hp).fr q
theorem LO.cells {w w' : World} {B g : Nat} {tv : List (Lf × Value)} {cs : Array Value} {t : TypeId} (h : LO w B tv) (q : w.grownBy w' (some g)) (H : w.heap[g]? = some (.cells cs t (0, 0))) (ht : 5 ≠ t) : LO w' B tv := fun p hp => own_grown (h p hp) q H ht
theorem LO.own {w w' : World} {B b s n : Nat} {tv : List (Lf × Value)} {e : TypeId} {v : Value} {xs : List Value} (h : LO w B tv) (q : w.grownBy w' v.ownBlock) (O : w.ownsRow b e s v n xs) (ht : 5 ≠ e) : LO w' B tv := fun p hp => World.ownsRow.kept (h p hp) q (own_ne2 (h p hp) O ht)
theorem LO.snoc {w : World} {B : Nat} {tv : List (Lf × Value)} {p : Lf × Value} (h : LO w B tv) (hp : OwnB w B p.2 p.1.data) : LO w B (tv ++ [p]) := fun q hq => by
  rcases List.mem_append.1 hq with h1 | h1
  · exact h q h1
  · rw [List.mem_singleton.1 h1]; exact hp
theorem LO.low {w : World} {B B' : Nat} {tv : List (Lf × Value)} (h : LO w B tv) (hb : B' ≤ B) : LO w B' tv := fun p hp => (h p hp).low hb
theorem info_leaf : ∃ i, Tryd.prog.info? 45 = some i ∧ i.zero = some (.agg #[.string ⟨#[]⟩, .int .i64 0, .int .i64 0, .int .u64 0, .slice none 0 0, .string ⟨#[]⟩]) ∧ i.size = 6 ∧ i.bytes = 80 := by
  have : (Tryd.prog.info? 45).map (fun i => (i.zero, i.size, i.bytes)) = some (some (.agg #[.string ⟨#[]⟩, .int .i64 0, .int .i64 0, .int .u64 0, .slice none 0 0, .string ⟨#[]⟩]), 6, 80) := by kernel_rfl
  obtain ⟨i, hi, he⟩ := Option.map_eq_some_iff.1 this
  injection he with e1 e2
  injection e2 with e2 e3
  exact ⟨i, hi, e1, e2, e3⟩

/-! ### A whole parcel -/
def rootLf (m s : Int) : Lf := ⟨⟨#[47]⟩, 2, m, s, [], ⟨#[]⟩⟩
theorem pathOf_nil : pathOf [] = ⟨#[47]⟩ := by simp [pathOf]
def headB (L : List Int) : Bool := decide (5 ≤ L.length) && L.take 5 == [80, 82, 67, 76, 1]
def endE (crc : List Int → Int) (L : List Int) (t : List Lf) (sb : List Int) : Er → List Lf × Int
  | .error e => ([], e)
  | .ok j => if sb = le (crc (L.take (j - 4))) 4 then (if j < L.length then ([], 190) else (t, 0)) else ([], 192)
def endX (crc : List Int → Int) (L : List Int) (t : List Lf) (o : Er) : List Lf × Int := endE crc L t (takeX L 4 (takeX L 1 o).2).1 (takeX L 4 (takeX L 1 o).2).2
theorem endX_E (crc : List Int → Int) (L : List Int) (t : List Lf) (o : Er) : endX crc L t o = endE crc L t (takeX L 4 (takeX L 1 o).2).1 (takeX L 4 (takeX L 1 o).2).2 := rfl
def treeR (L : List Int) (m s : Int × Er) : List Lf × Er := treeX gtB L false (L.length + 1) [rootLf m.1 s.1] [] true s.2
def readX (crc : List Int → Int) (L : List Int) : List Lf × Int :=
  if headB L = true then
    endX crc L (treeR L (numX L 2 0 4095 (.ok 5)) (numX L 8 0 18446744073709551615 (numX L 2 0 4095 (.ok 5)).2)).1 (treeR L (numX L 2 0 4095 (.ok 5)) (numX L 8 0 18446744073709551615 (numX L 2 0 4095 (.ok 5)).2)).2
  else ([], 190)
end Go.Proofs.YtlnaeppbhjmocaaDoor
set_option linter.unusedSimpArgs false
set_option linter.unusedVariables false
namespace Go.Proofs.YtlnaeppbhjmocaaDoor
open Go.RowKit Go.Proofs Go.Proofs.YtlnaeppbhjmocaaDoorW.PrintWords Go.Proofs.YtlnaeppbhjmocaaDoorW.PrintMore

theorem large_short (A : Option Addr) (c : Nat) (L : List Int) (w : World) (hw : Ok w) (hl : L.length < 15) :
    Calls Tryd.prog 12 #[.slice A L.length c] w fun e w' => (∃ n, e = .returned (.int .i64 n)) ∧ Fr w w' := by
  have d1 : decide ((L.length : Int) < 15) = true := decide_eq_true (by omega)
  go_enter Tryd.func12, Tryd.ntmps12
  go_wp2
  go_ret
  exact ⟨⟨0, rfl⟩, Fr.refl hw⟩
set_option maxHeartbeats 6400000 in
set_option maxRecDepth 100000 in
theorem large_long (gb ob c : Nat) (L : List Int) (w : World) (hw : Ok w) (hA : BytesAt w (some ⟨gb, ob, none⟩) L) (hgb : gb < w.heap.size) (hb : bytesOk L) (hc : L.length ≤ c) (hL : L.length ≤ 1073741824) (hg : 4 ≤ w.heap.size) (hl : 15 ≤ L.length) :
    Calls Tryd.prog 12 #[.slice (some ⟨gb, ob, none⟩) L.length c] w fun e w' => (∃ n, e = .returned (.int .i64 n)) ∧ Fr w w' := by
  have d1 : decide ((L.length : Int) < 15) = false := decide_eq_false (by omega)
  obtain ⟨w1, g, hg1, hw1, f, hz1, H1⟩ := boxedN hw #[.slice (some ⟨gb, ob, none⟩) L.length c, .int .i64 15, .int .i64 0, .int .i64 0, .bool true] 58
  obtain ⟨w2, g2, hg2, hw2, f2, hz2, H2⟩ := boxedN f.ok #[.string ⟨#[47]⟩, .int .i64 2, .int .i64 0, .int .u64 0, .slice none 0 0, .string ⟨#[]⟩] 45
  have HR : RX w2 g (some ⟨gb, ob, none⟩) c L (.ok 15) 0 true := ⟨15, hl, fun j e => (by injection e), fun e h => (by cases h), f2.heap H1⟩
  replace f := f.trans f2
  have h12 : g2 ≠ g := by omega
  have l1 : w.heap.size ≤ g := by omega
  have l2 : w.heap.size ≤ g2 := by have := f2.size; omega
  have hgg : 4 ≤ g := by omega
  have hgn : gb ≠ g := by omega
  have HBy := Lib.hid hb
  obtain ⟨i0, i1, i2, i3, i4, i5⟩ := blk6 H2; have z0 := unfroz H2 0; have z1 := unfroz H2 1; have z2 := unfroz H2 2; have z3 := unfroz H2 3; have z4 := unfroz H2 4; have z5 := unfroz H2 5; have j0 := idemC H2 i0; have j1 := idemC H2 i1; have j2 := idemC H2 i2; have j3 := idemC H2 i3; have j4 := idemC H2 i4; have j5 := idemC H2 i5
  clear f2 H1
  go_enter Tryd.func12, Tryd.ntmps12
  go_wp2_with fail
  clear i0 i1 i2 i3 i4 i5 z0 z1 z2 z3 z4 z5 j0 j1 j2 j3 j4 j5
  go_loopg [] (L.length + 1) (fun k wc => ∃ (ns : List ByteArray) (ty mode stamp : Int) (D : Value) (P T : ByteArray) (o : Er) (told : Int), Hid (wc.heap[g2]? = some (.cells #[.string P, .int .i64 ty, .int .i64 mode, .int .u64 stamp, D, .string T] 45 (0, 0))) ∧
    Hid (RX wc g (some ⟨gb, ob, none⟩) c L o told true) ∧ Hid (∀ j, o = .ok j → L.length < k + j ∧ P = pathOf ns ∧ Good ns ty) ∧ Hid (Fr w wc))
  case atStart => exact ⟨[], 2, 0, 0, .slice none 0 0, _, _, _, _, Lib.hid H2, Lib.hid HR, Lib.hid (fun j e => by injection e with e; subst e; exact ⟨by omega, by rw [pathOf_nil], good_root⟩), Lib.hid f⟩
  case round =>
    clear H2 HR f
    obtain ⟨ns, ty, mode, stamp, D, P, T, o, told, H2, HR, HG, f⟩ := hrel
    have H2' := H2.out
    obtain ⟨i, hi, hoi, hoe, HB⟩ := HR.out
    unfold RXB at HB
    obtain ⟨c0, c1, c2, c3, c4⟩ := blk5 HB
    by_cases hoe : ∃ e, o = .error e
    · obtain ⟨e, rfl⟩ := hoe
      have d2 : (Er.num (.error e) == 0) = false := by simpa [Er.num] using rx_err HR.out
      clear HB hi hoi
      go_wp2
      go_ret
      exact ⟨⟨_, rfl⟩, f.out⟩
    · obtain ⟨j, rfl⟩ : ∃ j, o = .ok j := by cases o with
        | error e => exact absurd ⟨e, rfl⟩ hoe
        | ok j => exact ⟨j, rfl⟩
      obtain rfl := hoi j rfl
      have d2 : (Er.num (.ok i) == 0) = true := rfl
      clear hoe
      by_cases hlt : i < L.length
      · have d3 : decide ((i : Int) < (L.length : Int)) = true := decide_eq_true (by omega)
        have hcell : wr.cell? ⟨gb, ob + i, none⟩ = some (.int .u8 (L.getD i 0)) := by
          rcases hA.fr f.out with h | ⟨g', o', e, _, h⟩
          · rw [h] at hlt; simp at hlt
          · injection e with e; injection e with e1 e2; subst e1 e2
            rw [show L.getD i 0 = L[i] by simp [List.getD, hlt]]; exact h i _ (List.getElem?_eq_getElem hlt)
        have d4 : (0 : Int) ≤ (i : Int) := by omega
        have d5 : (i : Int) < (L.length : Int) := by omega
        obtain ⟨b, hbb⟩ : ∃ b, L.getD i 0 = b := ⟨_, rfl⟩
        rw [hbb] at hcell
        by_cases h255 : b = 255
        · have d6 : (b != 255) = false := by simpa using h255
          clear HB hi hoi h255 hbb
          go_wp2
          go_ret
          exact ⟨⟨_, rfl⟩, f.out⟩
        · have d6 : (b != 255) = true := by simpa using h255
          obtain ⟨hk, hP, hgd⟩ := HG.out i rfl
          subst hP
          obtain ⟨⟨⟨lf, ns'⟩, o'⟩, hX⟩ : ∃ X, leafX gtB L true ns (decide (ty = 2)) (.ok i) = X := ⟨_, rfl⟩
          have hlf := leaf_go (fun e w' => ∃ va vn vc told', e = Ending.returned (.agg #[.string lf.path, .int .i64 lf.ty, .int .i64 lf.mode, .int .u64 lf.stamp, .slice va vn vc, .string lf.tgt]) ∧ wr.grownBy w' (some g) ∧ RX w' g (some ⟨gb, ob, none⟩) c L o' told' true) g gb ob c L (.ok i) told true wr f.out.ok HR.out (hA.fr f.out) hgn HBy.out hc hL hgg ns hgd.names hgd.deep hgd.size ty mode stamp D T hgd.dir
            (Lib.hid (by rw [hX]; exact fun w' v told' h1 h2 h3 => (by obtain ⟨a, c', hv⟩ := h3.form; subst hv; exact ⟨_, _, _, told', rfl, h1, h2⟩)))
          have HLF := Lib.hid hlf
          have HX := Lib.hid hX
          have HK := Lib.hid hk
          have HGD := Lib.hid hgd
          obtain ⟨y0, y1, y2, y3, y4, y5⟩ := blk6 H2'
          clear HB hi hoi h255 hbb hlf hX hk hgd HG
          go_wp2_with (go_at_call 31; refine HLF.out.mono ?_; rintro e wl ⟨va, vn, vc, told', rfl, q, HRn⟩; clear y0 y1 y2 y3 y4 y5 c0 c1 c2 c3 c4 hcell; replace H2' := grown_blk' q H2' (fun k => h12 (by injection k)); obtain ⟨y0, y1, y2, y3, y4, y5⟩ := blk6 H2'; have z0 := unfroz H2' 0; have z1 := unfroz H2' 1; have z2 := unfroz H2' 2; have z3 := unfroz H2' 3; have z4 := unfroz H2' 4; have z5 := unfroz H2' 5; obtain ⟨w9, hw9, q9, H29⟩ := set6all H2' (.string lf.path) (.int .i64 lf.ty) (.int .i64 lf.mode) (.int .u64 lf.stamp) (.slice va vn vc) (.string lf.tgt); (have HF := Lib.hid (And.intro (row_own (row_own f.out hw q l1) hw q9 l2) (And.intro (HRn.grown q9 (fun h => h12 (by injection h with h; exact h.symm))) H29))); clear q HRn q9 H29 H2')
          cases gk with
          | zero => exact absurd HK.out (by omega)
          | succ k =>
            go_roundg k
            case measure => omega
            case rel =>
              refine ⟨ns', lf.ty, lf.mode, lf.stamp, .slice va vn vc, lf.path, lf.tgt, o', told', Lib.hid HF.out.2.2, Lib.hid HF.out.2.1, Lib.hid (fun j hj => ?_), Lib.hid HF.out.1⟩
              subst hj
              have hp := leafX_on (by rw [HX.out])
              obtain ⟨i', e1, a1, b1⟩ := hp
              injection e1 with e1
              have := HK.out
              exact ⟨by omega, leafX_Good HBy.out HGD.out HX.out⟩
      · have d3 : decide ((i : Int) < (L.length : Int)) = false := decide_eq_false (by omega)
        have d5 : (L.length : Int) ≤ (i : Int) := by omega
        clear HB hi hoi hlt
        go_wp2
        go_ret
        exact ⟨⟨_, rfl⟩, f.out⟩
theorem large_any (A : Option Addr) (c : Nat) (L : List Int) (w : World) (hw : Ok w) (hA : BytesAt w A L) (hb : bytesOk L) (hc : L.length ≤ c) (hL : L.length ≤ 1073741824) (hg : 4 ≤ w.heap.size) :
    Calls Tryd.prog 12 #[.slice A L.length c] w fun e w' => (∃ n, e = .returned (.int .i64 n)) ∧ Fr w w' := by
  by_cases hl : L.length < 15
  · exact large_short A c L w hw hl
  · have hA' := hA
    rcases hA with h | ⟨g, o, rfl, hlt, h⟩
    · rw [h] at hl; simp at hl
    · exact large_long g o c L w hw hA' hlt hb hc hL hg (by omega)
end Go.Proofs.YtlnaeppbhjmocaaDoor
set_option linter.unusedSimpArgs false
set_option linter.unusedVariables false
namespace Go.Proofs.YtlnaeppbhjmocaaDoor
def crcBit (x : Nat) : Nat := if x % 2 = 1 then x / 2 ^^^ 3988292384 else x / 2
def crcTab : List Nat := [0, 498536548, 997073096, 651767980, 1994146192, 1802195444, 1303535960, 1342533948, 3988292384, 4027552580, 3604390888, 3412177804, 2607071920, 2262029012, 2685067896, 3183342108]
theorem xor_half (a b : Nat) : (a ^^^ b) / 2 = a / 2 ^^^ b / 2 := by
  have h := Nat.shiftRight_xor_distrib (a := a) (b := b) (i := 1)
  simpa [Nat.shiftRight_succ, Nat.shiftRight_zero] using h
theorem xor_odd (a b : Nat) : (a ^^^ b) % 2 = (a % 2 + b % 2) % 2 := by
  have h := Nat.xor_mod_two_eq_one (a := a) (b := b)
  rcases Nat.mod_two_eq_zero_or_one a with ha | ha <;> rcases Nat.mod_two_eq_zero_or_one b with hb | hb <;> rcases Nat.mod_two_eq_zero_or_one (a ^^^ b) with hc | hc <;> rw [ha, hb, hc] at h <;> rw [ha, hb, hc] <;> simp at h ⊢
theorem crc_bit_any (x : Nat) (c : Nat) : crcBit (x ^^^ c) = crcBit x ^^^ crcBit c := by
  unfold crcBit
  rw [xor_odd, xor_half]
  rcases Nat.mod_two_eq_zero_or_one x with ha | ha <;> rcases Nat.mod_two_eq_zero_or_one c with hb | hb <;> rw [ha, hb]
  · simp
  · simp [Nat.xor_assoc]
  · simp only [Nat.zero_mod, Nat.add_zero, Nat.one_mod, if_true, Nat.reduceMod, Nat.reduceEqDiff, if_false, reduceIte, Nat.zero_ne_one]
    rw [Nat.xor_assoc, Nat.xor_comm (c / 2), Nat.xor_assoc]
  · simp only [Nat.reduceAdd, Nat.reduceMod, reduceIte, Nat.zero_ne_one]
    rw [Nat.xor_assoc, ← Nat.xor_assoc 3988292384, Nat.xor_comm 3988292384, Nat.xor_assoc (c / 2), Nat.xor_self, Nat.xor_zero]
theorem crc_even (h : Nat) : crcBit (2 * h) = h := by
  unfold crcBit; rw [if_neg (by omega)]; omega
theorem split16 (x : Nat) : x = (16 * (x / 16)) ^^^ (x % 16) := by
  have h : x % 16 < 2 ^ 4 := by omega
  have h2 : 2 ^ 4 * (x / 16) + x % 16 = 2 ^ 4 * (x / 16) ||| x % 16 := Nat.two_pow_add_eq_or_of_lt h _
  have h3 : (16 * (x / 16)) ^^^ (x % 16) = 16 * (x / 16) ||| x % 16 := by
    apply Nat.eq_of_testBit_eq
    intro i
    rw [Nat.testBit_xor, Nat.testBit_or]
    by_cases hi : i < 4
    · have : (16 * (x / 16)).testBit i = false := by
        have := Nat.testBit_two_pow_mul (i := 4) (a := x / 16) (j := i)
        simp at this
        rw [this]; simp; omega
      rw [this]; simp
    · have : (x % 16).testBit i = false := Nat.testBit_lt_two_pow (Nat.lt_of_lt_of_le h (Nat.pow_le_pow_right (by decide) (by omega)))
      rw [this]; simp
  rw [h3]
  have : x = 16 * (x / 16) + x % 16 := by omega
  simp only [Nat.reducePow] at h2
  omega
theorem crc_four (x : Nat) : crcBit (crcBit (crcBit (crcBit x))) = x / 16 ^^^ crcTab.getD (x % 16) 0 := by
  have key : ∀ l : Nat, l < 16 → crcBit (crcBit (crcBit (crcBit l))) = crcTab.getD l 0 := by decide
  conv => lhs; rw [split16 x]
  rw [crc_bit_any, crc_bit_any, crc_bit_any, crc_bit_any, key (x % 16) (Nat.mod_lt _ (by decide))]
  congr 1
  rw [show 16 * (x / 16) = 2 * (8 * (x / 16)) by omega, crc_even, show 8 * (x / 16) = 2 * (4 * (x / 16)) by omega, crc_even, show 4 * (x / 16) = 2 * (2 * (x / 16)) by omega, crc_even, crc_even]
end Go.Proofs.YtlnaeppbhjmocaaDoor
set_option linter.unusedSimpArgs false
set_option linter.unusedVariables false
namespace Go.Proofs.YtlnaeppbhjmocaaDoor
open Go.RowKit Go.Proofs Go.Proofs.YtlnaeppbhjmocaaDoorW.PrintWords Go.Proofs.YtlnaeppbhjmocaaDoorW.PrintLast Go.Proofs.YtlnaeppbhjmocaaDoorW.PrintMore

def crcIt : Nat → Nat → Nat
  | 0, x => x
  | n + 1, x => crcIt n (crcBit x)
def crcByte (x : Nat) (b : Int) : Nat := crcIt 8 (x ^^^ b.toNat)
def crcReg : List Int → Nat → Nat
  | [], x => x
  | b :: r, x => crcReg r (crcByte x b)
/-- the check sum -/
def crcN (L : List Int) : Nat := crcReg L 4294967295 ^^^ 4294967295
def crcI (L : List Int) : Int := (crcN L : Int)
theorem crcBit_lt {x : Nat} (h : x < 4294967296) : crcBit x < 4294967296 := by
  unfold crcBit
  split
  · exact Nat.xor_lt_two_pow (n := 32) (by omega) (by decide)
  · omega
theorem crcIt_lt {n x : Nat} (h : x < 4294967296) : crcIt n x < 4294967296 := by
  induction n generalizing x with
  | zero => exact h
  | succ n ih => exact ih (crcBit_lt h)
theorem xor_byte_lt {x : Nat} {b : Int} (h : x < 4294967296) (hb : 0 ≤ b ∧ b ≤ 255) : x ^^^ b.toNat < 4294967296 := Nat.xor_lt_two_pow (n := 32) h (by omega)
theorem crcByte_lt {x : Nat} {b : Int} (h : x < 4294967296) (hb : 0 ≤ b ∧ b ≤ 255) : crcByte x b < 4294967296 := crcIt_lt (xor_byte_lt h hb)
theorem crcReg_lt {L : List Int} (hL : bytesOk L) : ∀ {x : Nat}, x < 4294967296 → crcReg L x < 4294967296 := by
  induction L with
  | nil => exact fun h => h
  | cons b r ih => exact fun h => ih (fun x hx => hL x (List.mem_cons_of_mem _ hx)) (crcByte_lt h (hL b List.mem_cons_self))
theorem crcReg_app (A B : List Int) (x : Nat) : crcReg (A ++ B) x = crcReg B (crcReg A x) := by
  induction A generalizing x with
  | nil => rfl
  | cons b r ih => exact ih _
theorem crcN_lt {L : List Int} (hL : bytesOk L) : crcN L < 4294967296 := Nat.xor_lt_two_pow (n := 32) (crcReg_lt hL (by decide)) (by decide)
theorem crcI_rg {L : List Int} (hL : bytesOk L) : 0 ≤ crcI L ∧ crcI L ≤ 4294967295 := by have := crcN_lt hL; unfold crcI; omega
theorem xor32 (a b : Nat) (ha : a < 4294967296) (hb : b < 4294967296) : Go.bits .xor .u32 a b = ((a ^^^ b : Nat) : Int) := by
  have hp : (2 : Nat) ^ IntKind.u32.bits = 4294967296 := rfl
  have ha' : a % 2 ^ IntKind.u32.bits = a := Nat.mod_eq_of_lt ha
  have hb' : b % 2 ^ IntKind.u32.bits = b := Nat.mod_eq_of_lt hb
  simp only [Go.bits, BitVec.ofInt_natCast, BitVec.toNat_xor, BitVec.toNat_ofNat, ha', hb']
  have := Nat.xor_lt_two_pow (n := 32) ha hb
  rw [IntKind.wrap_u32]; omega
theorem and32 (a : Nat) (ha : a < 4294967296) : Go.bits .and .u32 (a : Int) 15 = ((a % 16 : Nat) : Int) := by
  have h := (bits_nat .u32 32 (by decide) (fun n h0 h1 => by rw [IntKind.wrap_u32]; omega) a 15 ha (by decide)).1
  have h2 : a &&& 15 = a % 16 := Nat.and_two_pow_sub_one_eq_mod a 4
  rw [h2] at h
  exact h
/-! ### The program's sum -/
theorem crc8_tab (x : Nat) : crcIt 8 x = (x / 16 ^^^ crcTab.getD (x % 16) 0) / 16 ^^^ crcTab.getD ((x / 16 ^^^ crcTab.getD (x % 16) 0) % 16) 0 := by
  have h1 := crc_four x
  have h2 := crc_four (x / 16 ^^^ crcTab.getD (x % 16) 0)
  show crcBit (crcBit (crcBit (crcBit (crcBit (crcBit (crcBit (crcBit x))))))) = _
  rw [h1, h2]
theorem tab_lt (i : Nat) : crcTab.getD i 0 < 4294967296 := by
  by_cases h : i < 16
  · have : ∀ i, i < 16 → crcTab.getD i 0 < 4294967296 := by decide
    exact this i h
  · rw [List.getD_eq_getElem?_getD, List.getElem?_eq_none (by simp [crcTab]; omega)]; decide
theorem fours_cell {w : World} (hw : Ok w) (i : Nat) (h : i < 16) : w.cell? ⟨0, i, none⟩ = some (.int .u32 (crcTab.getD i 0)) := by
  have hf := hw.fours
  simp only [World.var?, gFours, Option.bind_some] at hf
  split at hf
  · rename_i cs t fz heq
    injection hf with hf
    subst hf
    simp only [World.cell?, heq]
    show foursTab[i]? = some (.int .u32 (crcTab.getD i 0))
    rcases (by omega : i = 0 ∨ i = 1 ∨ i = 2 ∨ i = 3 ∨ i = 4 ∨ i = 5 ∨ i = 6 ∨ i = 7 ∨ i = 8 ∨ i = 9 ∨ i = 10 ∨ i = 11 ∨ i = 12 ∨ i = 13 ∨ i = 14 ∨ i = 15) with rfl | rfl | rfl | rfl | rfl | rfl | rfl | rfl | rfl | rfl | rfl | rfl | rfl | rfl | rfl | rfl <;> rfl
  · cases hf
set_option maxHeartbeats 3200000 in
set_option maxRecDepth 100000 in
theorem sum_any (A : Option Addr) (c : Nat) (L : List Int) (hb : bytesOk L) (hc : L.length ≤ c) (hL : L.length ≤ 1073741824) (w : World) (hw : Ok w) (hA : BytesAt w A L) :
    Calls Tryd.prog 40 #[.slice A L.length c] w fun e w' => e = .returned (.int .u32 (crcI L)) ∧ w' = w := by
  have HC : Hid (∀ j (h : j < L.length), ∃ a, A = some a ∧ w.cell? (a.add j) = some (.int .u8 (L.getD j 0))) := Lib.hid (fun j hj => by
    rcases hA with h | ⟨g', o', rfl, _, h⟩
    · rw [h] at hj; simp at hj
    · exact ⟨_, rfl, by rw [Lib.add_plain, show L.getD j 0 = L[j] by simp [List.getD, hj]]; exact h j _ (List.getElem?_eq_getElem hj)⟩)
  have HT := Lib.hid (fours_cell hw)
  have HBy := Lib.hid hb
  clear hA hb
  go_enter Tryd.func40, Tryd.ntmps40
  go_wp2_with fail
  go_loop [3, 8] (fun v3 v8 => ∃ k x : Nat, k ≤ L.length ∧ x < 4294967296 ∧ Hid (crcReg (L.drop k) x = crcReg L 4294967295) ∧ v3 = .int .u32 x ∧ v8 = .int .i64 k) (fun _ v8 => L.length - (intOf v8).toNat)
  case atStart => exact ⟨0, 4294967295, Nat.zero_le _, by decide, Lib.hid rfl, rfl, rfl⟩
  case round =>
    obtain ⟨k, x, hk, hx, HR, rfl, rfl⟩ := hrel
    by_cases hlt : k < L.length
    · obtain ⟨a, rfl, hcell⟩ := HC.out k hlt
      have hbk := getD_byte HBy.out k
      obtain ⟨b, hbb⟩ : ∃ b : Nat, L.getD k 0 = (b : Int) := ⟨_, (Int.toNat_of_nonneg hbk.1).symm⟩
      rw [hbb] at hcell hbk
      have d1 : decide ((k : Int) < (L.length : Int)) = true := decide_eq_true (by omega)
      have d2 : (0 : Int) ≤ (k : Int) := by omega
      have d3 : (k : Int) < (L.length : Int) := by omega
      obtain ⟨z, hz⟩ : ∃ z, x ^^^ b = z := ⟨_, rfl⟩
      have hzl : z < 4294967296 := by rw [← hz]; exact Nat.xor_lt_two_pow (n := 32) hx (by omega)
      have e1 := xor32 x b hx (by omega)
      rw [hz] at e1
      have e2 := and32 z hzl
      have e4 := HT.out (z % 16) (by omega)
      obtain ⟨t1, ht1⟩ : ∃ t, crcTab.getD (z % 16) 0 = t := ⟨_, rfl⟩
      have hl1 : t1 < 4294967296 := by rw [← ht1]; exact tab_lt _
      rw [ht1] at e4
      obtain ⟨y, hy⟩ : ∃ y, z / 16 ^^^ t1 = y := ⟨_, rfl⟩
      have hyl : y < 4294967296 := by rw [← hy]; exact Nat.xor_lt_two_pow (n := 32) (by omega) hl1
      have e5 := xor32 (z / 16) t1 (by omega) hl1
      rw [hy, Int.natCast_ediv] at e5
      have e6 := and32 y hyl
      have e7 := HT.out (y % 16) (by omega)
      obtain ⟨t2, ht2⟩ : ∃ t, crcTab.getD (y % 16) 0 = t := ⟨_, rfl⟩
      have hl2 : t2 < 4294967296 := by rw [← ht2]; exact tab_lt _
      rw [ht2] at e7
      obtain ⟨v, hv⟩ : ∃ v, y / 16 ^^^ t2 = v := ⟨_, rfl⟩
      have hvl : v < 4294967296 := by rw [← hv]; exact Nat.xor_lt_two_pow (n := 32) (by omega) hl2
      have e8 := xor32 (y / 16) t2 (by omega) hl2
      rw [hv, Int.natCast_ediv] at e8
      have hnew : crcByte x (b : Int) = v := by
        unfold crcByte
        rw [Int.toNat_natCast, hz, crc8_tab, ht1, hy, ht2, hv]
      have hdrop : L.drop k = (b : Int) :: L.drop (k + 1) := by rw [drop_getD hlt, hbb]
      have HN : Hid (crcReg (L.drop (k + 1)) v = crcReg L 4294967295) := Lib.hid (by rw [← HR.out, hdrop, ← hnew]; rfl)
      replace e5 : Go.bits .xor .u32 ((z : Int) / 16) (t1 : Int) = (y : Int) := e5
      replace e8 : Go.bits .xor .u32 ((y : Int) / 16) (t2 : Int) = (v : Int) := e8
      clear hnew hdrop hz ht1 hy ht2 hv HR hbb
      go_wp2
      go_round
      case rel => exact ⟨k + 1, v, by omega, hvl, HN, rfl, by go_num⟩
      case measure => simp [intOf]; omega
    · obtain rfl : k = L.length := by omega
      have hr : crcReg L 4294967295 = x := by rw [← HR.out, List.drop_length]; rfl
      have HRR := Lib.hid hr
      have d1 : (L.length : Int) ≤ (L.length : Int) := by omega
      clear hr HR hlt
      have hres : Go.bits .xor .u32 IntKind.u32.max (x : Int) = crcI L := by
        have h := xor32 4294967295 x (by decide) hx
        unfold crcI crcN
        rw [HRR.out, Nat.xor_comm]
        exact h
      have HRES := Lib.hid hres
      clear hres
      go_wp2
      all_goals first
        | (exact absurd (by assumption : IntKind.u32.signed = true) (by decide))
        | (go_ret; exact ⟨by rw [← HRES.out]; rfl, rfl⟩)
end Go.Proofs.YtlnaeppbhjmocaaDoor
set_option linter.unusedSimpArgs false
set_option linter.unusedVariables false
namespace Go.Proofs.YtlnaeppbhjmocaaDoor.Reg
open Go Go.RowKit Go.Sort
theorem wpMainT_enter {P : Program} {ops : Array Oper} {S : World → Prop} {D : Nat} {Q : Exit → Act → World → Prop} {k : Nat} {rest : List Nat} {o : Oper} {fn : FuncId} {args : Array Value} {a : Act} {w : World} {R : Ending → World → Prop} (ho : ops[k]? = some o) (hw : Region.wanted o (yielded ops a.tmps) = true)
    (hr : (execOp a.eval o).run P w = .ok (.enter fn args) w) (hc : Calls P fn args w R) (h : ∀ e w', R e w' → ∃ v, e = .returned v ∧ (k = D ∨ S w') ∧ wpMainT P ops Q S D rest (a.put o.dst v) w') : wpMainT P ops Q S D (k :: rest) a w := by
  unfold wpMainT wpOp
  simp only [ho, hw, if_true]
  left
  unfold Oper.wp
  rw [hr, Oper.upon_enter]
  refine hc.mono fun e w' hR => ?_
  obtain ⟨v, rfl, hS, h'⟩ := h e w' hR
  exact ⟨hS, h'⟩
end Go.Proofs.YtlnaeppbhjmocaaDoor.Reg
namespace Go.Proofs.YtlnaeppbhjmocaaDoor
open Go.RowKit Go.Proofs Go.Proofs.YtlnaeppbhjmocaaDoorW.PrintWords Go.Proofs.YtlnaeppbhjmocaaDoorW.PrintMore

/-- a tree in memory, its lists the call's own -/
def TreeAt (w : World) (B : Nat) (v : Value) (lfs : List Lf) : Prop := ∃ a tv c, v = .slice a tv.length c ∧ tv.map Prod.fst = lfs ∧ w.ownsRow B 45 6 (.slice a tv.length c) tv.length (lflat tv) ∧ LO w B tv
theorem TreeAt.nil (w : World) (B : Nat) : TreeAt w B (.slice none 0 0) [] := ⟨none, [], 0, rfl, rfl, ⟨rfl, .inl ⟨rfl, rfl⟩⟩, LO.nil w B⟩
theorem strOfNums_inj {a b : List Int} (ha : bytesOk a) (hb : bytesOk b) (h : strOfNums a = strOfNums b) : a = b := by
  have h1 : (a.map fun x => UInt8.ofNat x.toNat) = (b.map fun x => UInt8.ofNat x.toNat) := by
    have := congrArg (fun s : ByteArray => s.data.toList) h
    simpa [strOfNums] using this
  have key : ∀ (a b : List Int), bytesOk a → bytesOk b → (a.map fun x => UInt8.ofNat x.toNat) = (b.map fun x => UInt8.ofNat x.toNat) → a = b := by
    intro a
    induction a with
    | nil => intro b _ _ h; cases b with
      | nil => rfl
      | cons _ _ => simp at h
    | cons x r ih =>
      intro b ha hb h
      cases b with
      | nil => simp at h
      | cons y s =>
        simp only [List.map_cons, List.cons.injEq] at h
        have hx := ha x List.mem_cons_self
        have hy := hb y List.mem_cons_self
        have e := congrArg UInt8.toNat h.1
        simp only [UInt8.toNat_ofNat'] at e
        have : x = y := by omega
        rw [this, ih s (fun z hz => ha z (List.mem_cons_of_mem _ hz)) (fun z hz => hb z (List.mem_cons_of_mem _ hz)) h.2]
  exact key a b ha hb h1
theorem own_block {w : World} {g B n size : Nat} {cs : Array Value} {t : TypeId} (H : w.heap[g]? = some (.cells cs t (0, 0))) (hB : B ≤ g) (hn : n ≤ maxLen) (hs : cs.size = n * size) : w.ownsRow B t size (.slice (some ⟨g, 0, none⟩) n n) n cs.toList :=
  ⟨hs, .inr ⟨g, n, cs, rfl, hB, H, Nat.le_refl _, hn, hs, by rw [← hs]; exact List.take_length⟩⟩
theorem headB_iff {L : List Int} (h : 5 ≤ L.length) : headB L = (L.getD 0 0 == 80 && L.getD 1 0 == 82 && L.getD 2 0 == 67 && L.getD 3 0 == 76 && L.getD 4 0 == 1) := by
  match L, h with
  | a :: b :: c :: d :: e :: r, _ => simp [headB, Bool.and_assoc]
theorem headB_len {L : List Int} (h : L.length < 5) : headB L = false := by unfold headB; rw [decide_eq_false (by omega)]; rfl

end Go.Proofs.YtlnaeppbhjmocaaDoor
set_option linter.unusedSimpArgs false
set_option linter.unusedVariables false
namespace Go.Proofs.YtlnaeppbhjmocaaDoor
open Go.ChangeShapes Go.WideShapes Go.ChangeAt Go.RowKit

/-! ### Bulk -/
section
variable {H : Type}
theorem bulk_pos (x : DataW H) : 1 ≤ Rows.uptoBulk x := by
  cases x with
  | lit l => cases l <;> simp [Rows.uptoBulk]
  | _ => simp [Rows.uptoBulk]
theorem bulk_len (es : List (DataW H)) : es.length ≤ Rows.uptoBulkAll es := by
  induction es with
  | nil => simp [Rows.uptoBulkAll]
  | cons x r ih => have := bulk_pos x; simp only [Rows.uptoBulkAll, List.length_cons]; omega
theorem bulk_get {es : List (DataW H)} {i : Nat} {e : DataW H} (h : es[i]? = some e) : Rows.uptoBulk e ≤ Rows.uptoBulkAll es := by
  induction es generalizing i with
  | nil => simp at h
  | cons x r ih =>
    cases i with
    | zero => simp at h; subst h; simp only [Rows.uptoBulkAll]; omega
    | succ i => have := ih (by simpa using h); simp only [Rows.uptoBulkAll]; omega
end

section
variable {H : Type} {enc : TypeId × Value → H} {w : World} {base : Nat} {sp : Nat → Bool} {held : Bool}

/-- a slice of structs of k cells -/
theorem open_rows {α : Type} [Inhabited α] {Ts e : TypeId} {k : Nat} (f : α → List Value) (hf : ∀ a, (f a).length = k) (hk : 0 < k) (ht : Tryd.prog.underlying Ts = some (.slice e)) (hc : Tryd.prog.cellsOf e = k) (Q : α → DataW H → Prop)
    (hopen : ∀ {fuel : Nat} {cs : List Value} {x : DataW H × List MemPlace}, DataW.trod enc Tryd.prog w base sp held fuel e cs = some x → ∃ a, Q a x.1 ∧ cs = f a)
    {fuel : Nat} {cs : List Value} {x : DataW H × List MemPlace} (h : DataW.trod enc Tryd.prog w base sp held fuel Ts cs = some x) :
    ∃ (l : List α) (A : Option Addr) (c : Nat), cs = [.slice A l.length c] ∧ Row w A k (l.map f) ∧ l.length ≤ c ∧ (A = none → c = 0) ∧ l.length ≤ Rows.uptoBulk x.1 ∧ ∀ a ∈ l, ∃ d, Q a d ∧ Rows.uptoBulk d ≤ Rows.uptoBulk x.1 := by
  rcases Deep.open_slice ht h with ⟨rfl, rfl⟩ | ⟨ad, len, cap, m, n, D, Pl, rfl, hb, hl, hm, hmm, rfl, hx⟩
  · exact ⟨[], none, 0, rfl, .inl rfl, Nat.le_refl _, fun _ => rfl, by simp, fun a ha => by cases ha⟩
  rw [hc] at hx
  have hle : len ≤ m := by rw [hmm]; split <;> omega
  have key : ∀ i, i < len → ∃ a : α, Q a (D i) ∧ w.cells? base (ad.add (i * k)) k = some (f a) := fun i hi => by
    obtain ⟨cs', h1, h2⟩ := hx i (by omega)
    obtain ⟨a, ha, rfl⟩ := hopen h2
    exact ⟨a, ha, h1⟩
  clear hx
  obtain ⟨F, hF⟩ := Deep.choose_lt (α := α) (p := fun i a => Q a (D i) ∧ w.cells? base (ad.add (i * k)) k = some (f a)) key
  have hbulk : Rows.uptoBulkAll ((List.range len).map D) ≤ Rows.uptoBulk (DataW.slice ((List.range len).map D) ((List.range (m - len)).map fun j => D (len + j))) := by
    simp only [Rows.uptoBulk]; omega
  refine ⟨(List.range len).map F, some ad, cap, by simp, ?_, by simpa using hl, (fun e => by cases e), ?_, ?_⟩
  · cases len with
    | zero => exact .inl rfl
    | succ len =>
      right
      have cellsF : ∀ i, i < len + 1 → ∀ j, j < k → w.cell? (ad.add (i * k + j)) = (f (F i))[j]? := fun i hi j hj => by
        have := (World.cells?_some (hF i hi).2).2.2 j hj
        rwa [Deep.add_add] at this
      obtain ⟨b, o, spot⟩ := ad
      have h0 := cellsF 0 (by omega) 0 hk
      obtain ⟨v0, hv0⟩ : ∃ v, (f (F 0))[0]? = some v := ⟨_, List.getElem?_eq_getElem (by rw [hf]; exact hk)⟩
      rw [hv0] at h0
      have hspot : spot = none := by simpa [Addr.add] using World.cell?_spot h0
      subst hspot
      refine ⟨b, o, rfl, by simpa [Addr.add] using World.block_lt_of_cell? w _ h0, fun i c hi j v hj hv => ?_⟩
      have hi' : i < len + 1 := by have := (List.getElem?_eq_some_iff.1 hi).1; simpa using this
      have hce : c = f (F i) := by
        simp only [List.getElem?_map, List.getElem?_range hi', Option.map_some, Option.some.injEq] at hi
        exact hi.symm
      subst hce
      have := cellsF i hi' j hj
      rw [Lib.add_plain, hv] at this
      rw [Nat.add_assoc]; exact this
  · have := bulk_len ((List.range len).map D)
    simp only [List.length_map, List.length_range] at this ⊢
    omega
  · intro a ha
    obtain ⟨i, hi, rfl⟩ := List.mem_map.1 ha
    have hi' : i < len := by simpa using hi
    refine ⟨D i, (hF i hi').1, ?_⟩
    exact Nat.le_trans (bulk_get (es := (List.range len).map D) (i := i) (e := D i) (by simp [hi'])) hbulk
end

theorem open_u8s {H : Type} {enc : TypeId × Value → H} {w : World} {base : Nat} {sp : Nat → Bool} {held : Bool} {fuel : Nat} {cs : List Value} {x : DataW H × List MemPlace} (h : DataW.trod enc Tryd.prog w base sp held fuel 22 cs = some x) :
    ∃ (L : List Int) (A : Option Addr) (c : Nat), cs = [.slice A L.length c] ∧ BytesAt w A L ∧ bytesOk L ∧ L.length ≤ c ∧ (A = none → c = 0) ∧ L.length ≤ Rows.uptoBulk x.1 := by
  have hc1 : Tryd.prog.cellsOf 5 = 1 := by kernel_rfl
  obtain ⟨L, A, c, h1, hR, h3, h4, h5, h6⟩ := open_rows (fun a : Int => [Value.int .u8 a]) (fun _ => rfl) (by decide) Tryd.underlying22 hc1 (fun a _ => 0 ≤ a ∧ a ≤ 255)
    (fun h => by
      obtain ⟨a, e0, rfl, w0⟩ := DataW.trod_int Tryd.underlying5 h
      refine ⟨a, ?_, e0⟩
      have := w0
      simp [Lit.wf, IntKind.min, IntKind.max, IntKind.signed, IntKind.bits] at this
      omega) h
  refine ⟨L, A, c, h1, ?_, fun a ha => (h6 a ha).choose_spec.1, h3, h4, h5⟩
  rcases hR with h | ⟨g, o, rfl, hg, hc⟩
  · left; simpa using h
  · refine .inr ⟨g, o, rfl, hg, fun i a hi => ?_⟩
    have := hc i [.int .u8 a] (by simp [hi]) 0 (.int .u8 a) Nat.zero_lt_one rfl
    simpa using this

theorem tab_of_reads {P : Program} {w : World} {name : String} {k : IntKind} {zs : List Int} {g : Nat} {t e : TypeId} {n : Nat}
    (hg : P.globalNamed name = some g) (hty : (P.globals[g]?).map (·.type) = some t) (ht : P.underlying t = some (.array n e)) (he : P.underlying e = some (.int k)) (hce : P.cellsOf e = 1) (hct : P.cellsOf t = n)
    (h : Lib.VarReads P w name (Lib.tabData k zs)) : Lib.TabIs P w name k zs := by
  obtain ⟨g', t', cs, fuel, p, hg', ht', hvar, hd⟩ := h
  obtain rfl := Option.some.inj (hg.symm.trans hg')
  obtain rfl := Option.some.inj (hty.symm.trans ht')
  unfold Lib.TabIs
  rw [hvar, ← Lib.cells_of_tab ht he hce hct hd]
theorem okFours {w : World} (h : Lib.VarReads Tryd.prog w "shale/words.fours" Rows.laid_shale_words_fours) : w.var? Tryd.prog "shale/words.fours" = some foursTab :=
  tab_of_reads gFours (t := 90) (e := 47) (n := 16) (k := .u32) (zs := crcTab.map fun n : Nat => (n : Int)) (by kernel_rfl) (by kernel_rfl) (by kernel_rfl) (by kernel_rfl) (by kernel_rfl) h
theorem sizeOf {W : World} (h : W.ShapedOpen Tryd.prog) : 4 ≤ W.heap.size := by
  have hs : (((begin Tryd.prog (fun _ _ => 0) default).world.heap[3]?).bind Obj.row?).isSome = true := by kernel_rfl
  obtain ⟨⟨zero, t⟩, h0⟩ := Option.isSome_iff_exists.1 hs
  obtain ⟨cs, hh, _⟩ := h.1 3 zero t (of_decide_eq_true (by kernel_rfl)) h0
  exact (Array.getElem?_eq_some_iff.1 hh).1
theorem own : ownKnob Tryd.prog.godebug = none := by kernel_rfl
theorem laidOut : laidOutB Tryd.prog = true := by kernel_rfl
end Go.Proofs.YtlnaeppbhjmocaaDoor
set_option linter.unusedSimpArgs false
set_option linter.unusedVariables false
namespace Go.Proofs.YtlnaeppbhjmocaaDoor
open Go.RowKit Go.Proofs

theorem zeroCells_one (z : Value) (hz : z.cells = #[z]) (n : Nat) : (Builtin.zeroCells z.cells n).toList = List.replicate n z := by
  rw [hz]
  unfold Builtin.zeroCells
  apply List.ext_getElem?
  intro j
  by_cases hj : j < n
  · simp [hj, Nat.mod_one]
  · simp [hj]
theorem ownB_lit (w : World) (B : Nat) (xs : List Int) (cap : Nat) (hB : B ≤ w.heap.size) (hc : xs.length ≤ cap) (hm : cap ≤ maxLen) :
    OwnB (w.alloc (.cells ((xs.map (Value.int .u8)).toArray ++ Builtin.zeroCells (Value.int .u8 0).cells (cap - xs.length)) 5)) B (.slice (some ⟨w.heap.size, 0, none⟩) xs.length cap) xs := by
  refine ⟨by simp, .inr ⟨w.heap.size, cap, _, rfl, hB, heap_alloc_new w _, hc, hm, ?_, ?_⟩⟩
  · have := congrArg List.length (zeroCells_one (Value.int .u8 0) rfl (cap - xs.length))
    rw [Array.length_toList, List.length_replicate] at this
    simp [this]
    omega
  · simp
theorem append_zeros (ty : TypeId) (B : Nat) (v : Value) (xs : List Int) (m : Nat) (h1 : 1 ≤ m) (h8 : m ≤ 16777216) (w : World) (ho : OwnB w B v xs) (hl : xs.length ≤ 1099511627776) (hB : B ≤ w.heap.size) :
    ∃ v' w', (Builtin.append_ #[22, 3] ty #[v, .int .i64 (m : Int)]).run Tryd.prog w = .ok v' w' ∧ OwnB w' B v' (xs ++ List.replicate m 0) ∧ w.grownBy w' v.ownBlock ∧ (v'.ownBlock = v.ownBlock ∨ v'.ownBlock = some w.heap.size) := by
  obtain ⟨i, hi, hz, hs, hb⟩ := info_byte
  have ht := Tryd.underlying22
  have hu := Tryd.underlying3
  have hw : IntKind.i64.wrap (m : Int) = (m : Int) := IntWalk.i64_in _ ⟨by omega, by omega⟩
  have hn0 : ¬ ((m : Int) < 0) := by omega
  have hm0 : m ≠ 0 := by omega
  have hb2 : ¬ (281474976710656 < (m : Int)) := by omega
  have hmp : ¬ ((m : Int) ≤ 0) := by omega
  have hmx : ¬ (9223372036854775807 < max (m : Int) 0) := by omega
  have hbig : ¬ (281474976710656 < (m : Int) * (1 : Nat)) := by omega
  have hzl : (Builtin.zeroCells (Value.int .u8 0).cells m).toList = List.replicate m (.int .u8 0) := zeroCells_one _ rfl m
  have hza : Builtin.zeroCells (Value.int .u8 0).cells m = (List.replicate m (Value.int .u8 0)).toArray := by rw [← hzl]
  obtain ⟨hlen, ho2⟩ := ho
  rcases ho2 with ⟨rfl, hx0⟩ | ⟨g, cap, cur, rfl, hbg, hg, hnc, hcm, hcs, htake⟩
  · have hx : xs = [] := List.eq_nil_of_length_eq_zero hx0
    subst hx
    have h63' : ¬ (9223372036854775807 < (m : Int)) := by omega
    have h48' : ¬ (281474976710656 < Builtin.nextslicecap m 0) := by rw [nextslicecap_zero (by omega)]; omega
    have hr : (Builtin.append_ #[22, 3] ty #[.slice none 0 0, .int .i64 (m : Int)]).run Tryd.prog w = .ok (.slice (some ⟨w.heap.size, 0, none⟩) m (grownCap w m 0 5)) (w.drew.alloc (.cells ((List.replicate m (Value.int .u8 0)).toArray ++ Builtin.zeroCells (Value.int .u8 0).cells (grownCap w m 0 5 - m)) 5)) := by
      simp [Builtin.append_, run_underlying ht, run_underlying hu, sizeOf, typeInfo, zeroValue, hi, hz, hs, hb, asInt, asIntOf, hw, hmp, hmx, hb2, hn0, hm0, hbig, h63', h48', Question.forced, run_firstCells_none, newRow, grownCap, hza]
    have hge := grownCap_ge w m 0 5
    refine ⟨_, _, hr, ?_, ⟨rfl, rfl, rfl, by simp, fun k hk _ => heap_alloc_old w.drew _ hk⟩, .inr rfl⟩
    have := ownB_lit w.drew B ([] ++ List.replicate m (0 : Int)) (grownCap w m 0 5) hB (by simpa using hge) (grownCap_le_maxLen w m 0 5 (by unfold maxLen; omega))
    simp only [List.nil_append, List.length_replicate, List.map_replicate] at this
    simp only [List.nil_append]
    exact this
  · by_cases hroom : xs.length + m ≤ cap
    · have hst := run_storeCells_at Tryd.prog g xs.length 5 (List.replicate m (Value.int .u8 0)) 0 cur w hg (by simp; omega) (by intro u hu; rw [(List.mem_replicate.1 hu).2]; rfl)
      simp only [Nat.add_zero, List.length_replicate] at hst
      have hr : (Builtin.append_ #[22, 3] ty #[.slice (some ⟨g, 0, none⟩) xs.length cap, .int .i64 (m : Int)]).run Tryd.prog w = .ok (.slice (some ⟨g, 0, none⟩) (xs.length + m) cap) (w.setRow g (cur.toList.take xs.length ++ List.replicate m (Value.int .u8 0) ++ cur.toList.drop (xs.length + m)).toArray) := by
        simp [Builtin.append_, run_underlying ht, run_underlying hu, sizeOf, typeInfo, zeroValue, hi, hz, hs, hb, asInt, asIntOf, hw, hmp, hmx, hb2, hn0, hm0, hbig, hroom, hza, hst, Addr.add_lit]
      refine ⟨_, _, hr, ⟨by simp, .inr ⟨g, cap, _, by simp, hbg, setRow_heap w g cur _ 5 _ hg, by simpa using hroom, hcm, ?_, ?_⟩⟩, ⟨rfl, rfl, rfl, by simp, fun k _ hk => setRow_other w g k _ (fun e => hk (by simp [Value.ownBlock, e]))⟩, .inl rfl⟩
      · simp
        omega
      · rw [Nat.mul_one] at htake
        rw [htake, List.map_append, List.map_replicate]
        have hlen2 : (List.map (Value.int .u8) xs ++ List.replicate m (Value.int .u8 0)).length = xs.length + m := by simp
        simp only [List.length_append, List.length_replicate, Nat.mul_one]
        rw [← hlen2]
        exact List.take_left
    · have holds : ∀ j u, (xs.map (Value.int .u8))[j]? = some u → w.drew.cell? ((⟨g, 0, none⟩ : Addr).add j) = some u := fun j u hj => by
        have hj' : j < xs.length := by simpa using (List.getElem?_eq_some_iff.1 hj).1
        rw [Lib.add_plain, Nat.zero_add]
        show w.cell? ⟨g, j, none⟩ = some u
        rw [cell_of_row w g j cur 5 (0, 0) hg, ← hj, ← htake, List.getElem?_take, if_pos (by omega)]
        simp
      have hfo := run_firstCells_some (P := Tryd.prog) w.drew 1 xs.length ⟨g, 0, none⟩ xs.length cap (xs.map (Value.int .u8)) (by simp) holds
      have h63' : ¬ (9223372036854775807 < ((xs.length : Int) + (m : Int))) := by omega
      have h63'' : ¬ (9223372036854775807 < ((xs.length : Int) + max (m : Int) 0)) := by omega
      have hgf := growslice_fits (need := xs.length + m) (old := cap) (bytes := 1) (by omega) (by omega)
      have h48' : ¬ (281474976710656 < Builtin.nextslicecap (xs.length + m) cap) := by omega
      have hr : (Builtin.append_ #[22, 3] ty #[.slice (some ⟨g, 0, none⟩) xs.length cap, .int .i64 (m : Int)]).run Tryd.prog w = .ok (.slice (some ⟨w.heap.size, 0, none⟩) (xs.length + m) (grownCap w (xs.length + m) cap 5))
          (w.drew.alloc (.cells (((xs ++ List.replicate m 0).map (Value.int .u8)).toArray ++ Builtin.zeroCells (Value.int .u8 0).cells (grownCap w (xs.length + m) cap 5 - (xs ++ List.replicate m (0 : Int)).length)) 5)) := by
        simp [Builtin.append_, run_underlying ht, run_underlying hu, sizeOf, typeInfo, zeroValue, hi, hz, hs, hb, asInt, asIntOf, hw, hmp, hmx, hb2, hn0, hm0, hbig, hroom, hza, h63', h63'', h48', Question.forced, hfo, newRow, grownCap]
        refine congrArg (fun a => World.alloc w.drew (Obj.cells a 5)) (Array.ext' ?_)
        simp only [Array.toList_append, List.append_assoc, Array.toList_replicate]
      have hge := grownCap_ge w (xs.length + m) cap 5
      refine ⟨_, _, hr, ?_, ⟨rfl, rfl, rfl, by simp, fun k hk _ => heap_alloc_old w.drew _ hk⟩, .inr rfl⟩
      have := ownB_lit w.drew B (xs ++ List.replicate m (0 : Int)) (grownCap w (xs.length + m) cap 5) hB (by simpa using hge) (grownCap_le_maxLen w _ cap 5 (by unfold maxLen; omega))
      simp only [List.length_append, List.length_replicate] at this ⊢
      exact this
end Go.Proofs.YtlnaeppbhjmocaaDoor
