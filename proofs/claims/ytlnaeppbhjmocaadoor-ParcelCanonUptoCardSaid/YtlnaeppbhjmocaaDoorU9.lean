/- nextHole's values, and the stretches of data (plain): how a file's data is cut. -/
import Derived.Test.YtlnaeppbhjmocaaDoorU8
import Derived.Deep.DeepCutAuto
import Derived.RegionTactic
import Derived.ChangeAlike
import Derived.Lib.SlBytesConst
import Derived.Laws.MakeOwn
set_option linter.unusedSectionVars false
set_option linter.unnecessarySimpa false
set_option linter.unusedSimpArgs false
set_option linter.unusedVariables false
set_option linter.unusedSimpArgs false
set_option linter.unusedVariables false
namespace Go.Proofs.YtlnaeppbhjmocaaDoor
open Go.RowKit Go.Proofs Go.Proofs.YtlnaeppbhjmocaaDoorW.PrintWords Go.Proofs.YtlnaeppbhjmocaaDoorW.PrintMore

/-- what leaf ends with -/
def LeafOut (X : Int → Prop) (B : Nat) (g : Nat) (A : Option Addr) (c : Nat) (L : List Int) (P : (Lf × List ByteArray) × Er) (e : Ending) (w' : World) : Prop :=
  (∃ x, X x ∧ e = gaveUp x) ∨ ∃ lf ns j a d na nd, P = ((lf, ns), .ok j) ∧ e = .returned (.tuple #[.agg #[.string lf.path, .int .i64 lf.ty, .int .i64 lf.mode, .int .u64 lf.stamp, .slice a lf.data.length d, .string lf.tgt], .slice na ns.length nd]) ∧
    OwnB w' B (.slice a lf.data.length d) lf.data ∧ NO w' B (.slice na ns.length nd) ns ∧ PB w' g A c L j ∧ j ≤ L.length

set_option maxHeartbeats 25600000 in
set_option maxRecDepth 100000 in
theorem pleaf_any (X : Int → Prop) (g gb ob c : Nat) (L : List Int) (i : Nat) (w : World) (hw : Ok w) (H : PB w g (some ⟨gb, ob, none⟩) c L i) (hi : i ≤ L.length) (hA : BytesAt w (some ⟨gb, ob, none⟩) L) (hgb : gb ≠ g) (hb : bytesOk L) (hc : L.length ≤ c) (hL : L.length ≤ 1073741824) (hg : 4 ≤ g)
    (ns : List ByteArray) (A : Option Addr) (cn B : Nat) (dir : Bool) (HN : NO w B (.slice A ns.length cn) ns) (hgB : g < B) (hBw : B ≤ w.heap.size) (hns : ∀ n ∈ ns, nameB n = true) (hd : ns.length ≤ 64) (hne : dir = true ∨ ns ≠ [])
    (hX : ∀ e, (leafX gtB L false ns dir (.ok i)).2 = .error e → X e) :
    Calls Tryd.prog 57 #[.pointer (some ⟨g, 0, none⟩), .slice A ns.length cn, .bool dir] w fun e w' => w.grownBy w' (some g) ∧ LeafOut X w.heap.size g (some ⟨gb, ob, none⟩) c L (leafX gtB L false ns dir (.ok i)) e w' := by
  have hmr := mostX_rg hne
  obtain ⟨mo, hmo⟩ : ∃ m, mostX ns dir = m := ⟨_, rfl⟩
  rw [hmo] at hmr
  obtain ⟨m1, hm1⟩ : ∃ m : Int, (ns.length : Int) - (if dir = true then 0 else 1) = m := ⟨_, rfl⟩
  have hmx : (if m1 > 63 then 63 else m1) = mo := by rw [← hmo, ← hm1]; unfold mostX; cases dir <;> rfl
  have hm1r : 0 ≤ m1 ∧ m1 ≤ ns.length := by
    rw [← hm1]
    rcases hne with h | h
    · subst h; simp
    · have := List.length_pos_iff.mpr h
      cases dir <;> simp <;> omega
  have hmons : mo ≤ ns.length := by rw [← hmx]; split <;> omega
  obtain ⟨XX, hXX⟩ : ∃ P, leafX gtB L false ns dir (.ok i) = P := ⟨_, rfl⟩
  rw [hXX] at hX ⊢
  have hgS : ∀ a, ((some ⟨gb, ob, none⟩) : Option Addr) = some a → some a.block ≠ some g := fun a e k => by injection e with e; subst e; injection k with k; exact hgb k
  have hNu := Lib.hid (fun (W : World) (gr : w.grownBy W (some g)) i HR hi s lo hi' h1 hx => num_or X g gb ob c L i s lo hi' W (hw.grown hg gr) HR hi (hA.grown gr hgS) hgb hb h1 hc hL hg hx)
  have hTk := Lib.hid (fun (W : World) (gr : w.grownBy W (some g)) i HR hi k h1 hx => take_or X g gb ob c L i k W (hw.grown hg gr) HR hi (hA.grown gr hgS) hgb h1 hc hL hg hx)
  have hDa := Lib.hid (fun (W : World) (gr : w.grownBy W (some g)) i HR hi hx => pdata_any X g gb ob c L i W (hw.grown hg gr) HR hi (hA.grown gr hgS) hgb hb hc hL hg hx)
  have hok := Lib.hid (fun (W : World) (gr : w.grownBy W (some g)) => hw.grown hg gr)
  obtain ⟨w2, g2, hg2, hw2, f, hz2, H2⟩ := boxedN hw #[.string ⟨#[]⟩, .int .i64 0, .int .i64 0, .int .u64 0, .slice none 0 0, .string ⟨#[]⟩] 45
  have hgw : g < w.heap.size := (Array.getElem?_eq_some_iff.mp H).1
  have hq2 : g2 ≠ g := by omega
  have l2 : w.heap.size ≤ g2 := by omega
  have HR := PB.fr H f
  have gr := fr_grown f (some g)
  replace HN := HN.fr f
  have HX := Lib.hid hX
  have HXX := Lib.hid hXX
  have HMO := Lib.hid hmo
  have HM1 := Lib.hid hm1
  have HMX := Lib.hid hmx
  have HBy := Lib.hid hb
  have HNS := Lib.hid hns
  have hX1 : Hid (∀ e, (numX L 1 0 mo (.ok i)).2 = .error e → X e) := Lib.hid (fun e h => HX.out e (by rw [← HXX.out]; exact leafX_e1 (by rw [HMO.out]; exact h)))
  clear hX hXX hmo hm1 hmx hb hns H f hne hz2
  go_enter Tryd.func57, Tryd.ntmps57
  go_upto_if 18 with fail
  go_cut [8] (fun v8 wc => v8 = .int .i64 m1 ∧ wc = w2)
  case first =>
    cases dir with
    | true =>
      have hv : (ns.length : Int) = m1 := by rw [← HM1.out]; simp
      have HV := Lib.hid hv
      clear hv
      go_wp2_with fail
      go_meet
      exact ⟨by rw [HV.out], rfl⟩
    | false =>
      have hv : (ns.length : Int) - 1 = m1 := by rw [← HM1.out]; simp
      have hv0 : (1 : Int) ≤ ns.length := by omega
      have HV := Lib.hid hv
      clear hv
      go_wp2_with fail
      go_meet
      exact ⟨by rw [HV.out], rfl⟩
  case rest =>
    obtain ⟨rfl, rfl⟩ := hcut
    have hmin : min m1 63 = mo := by rw [← HMX.out]; split <;> omega
    have wmo : IntKind.u64.wrap mo = mo := u64_in ⟨by omega, by omega⟩
    have tok1 : True := trivial
    go_upto_region 9 with (first
      | (go_at_call 56; have _t := tok1; go_loud (have ct := hNu.out _ gr i HR hi 1 0 mo (by omega) hX1.out); refine ct.mono ?_; clear ct; rintro e wa ⟨q, ⟨cc, hcc, he⟩ | ⟨k, j1, e1, rfl, HRa, hj1, _, hk, hk0⟩⟩; (· (unfold gaveUp at he; subst he; exact ⟨rfl, (grown_trans gr q), .inl ⟨cc, hcc, rfl⟩⟩)); go_loud (replace gr := grown_trans gr q; replace H2 := grown_blk' q H2 (fun k => hq2 (by injection k)); replace HN := HN.keep q hgB); clear q HR; have HR := HRa; clear HRa; have E1 := Lib.hid e1; go_loud (have hX2 : Hid (∀ e, (numX L 1 1 3 (.ok j1)).2 = .error e → X e) := Lib.hid (fun e h => HX.out e (by rw [← HXX.out]; exact leafX_e2 (by rw [HMO.out]; exact E1.out) h))); clear e1 tok1 hmin wmo; obtain ⟨kk, hkk⟩ : ∃ n : Nat, k = (n : Int) := ⟨_, (Int.toNat_of_nonneg hk0).symm⟩; subst hkk; have wk : IntKind.i64.wrap (kk : Int) = (kk : Int) := IntWalk.i64_in _ ⟨by omega, by omega⟩; have tok2 : True := trivial)
      | (go_at_call 56; have _t := tok2; go_loud (have ct := hNu.out _ gr j1 HR hj1 1 1 3 (by omega) hX2.out); refine ct.mono ?_; clear ct; rintro e wa2 ⟨q, ⟨cc, hcc, he⟩ | ⟨t', j2, e1, rfl, HRa, hj2, ht1, ht3, _⟩⟩; (· (unfold gaveUp at he; subst he; exact ⟨rfl, (grown_trans gr q), .inl ⟨cc, hcc, rfl⟩⟩)); replace gr := grown_trans gr q; replace H2 := grown_blk' q H2 (fun k => hq2 (by injection k)); replace HN := HN.keep q hgB; clear q HR; have HR := HRa; clear HRa; have E2 := Lib.hid e1; (have hX3 : Hid (∀ e, (numX L 2 0 4095 (.ok j2)).2 = .error e → X e) := Lib.hid (fun e h => HX.out e (by rw [← HXX.out]; exact leafX_e3 (by rw [HMO.out]; exact E1.out) E2.out h))); clear e1 tok2 wk; have wt : IntKind.i64.wrap t' = t' := IntWalk.i64_in _ ⟨by omega, by omega⟩; have tok3 : True := trivial)
      | (go_at_call 56; have _t := tok3; go_loud (obtain ⟨w3, g3, hg3, hw3, f3, hz3, H3⟩ := boxedN (hw.grown hg gr) #[.string ⟨#[]⟩, .int .i64 t', .int .i64 0, .int .u64 0, .slice none 0 0, .string ⟨#[]⟩] 45; rw [hw3, hg3]; have l3 : w.heap.size ≤ g3 := (by have := gr.size; omega); have hq3 : g3 ≠ g := (by omega); have n2 : g2 ≠ g3 := (by have := (Array.getElem?_eq_some_iff.mp H2).1; omega)); go_loud (replace H2 := f3.heap H2; replace HR := HR.fr f3; replace HN := HN.fr f3; replace gr := grown_fr gr f3; clear f3 wt); go_loud (have ct := hNu.out _ gr j2 HR hj2 2 0 4095 (by omega) hX3.out); refine ct.mono ?_; clear ct; rintro e wa3 ⟨q, ⟨cc, hcc, he⟩ | ⟨m', j3, e1, rfl, HRa, hj3, hm0, hm3, _⟩⟩; (· (unfold gaveUp at he; subst he; exact ⟨rfl, (grown_trans gr q), .inl ⟨cc, hcc, rfl⟩⟩)); replace gr := grown_trans gr q; replace H2 := grown_blk' q H2 (fun k => hq2 (by injection k)); replace HN := HN.keep q hgB; replace H3 := grown_blk' q H3 (fun k => hq3 (by injection k)); clear q HR; have HR := HRa; clear HRa; have E3 := Lib.hid e1; (have hX4 : Hid (∀ e, (numX L 8 0 18446744073709551615 (.ok j3)).2 = .error e → X e) := Lib.hid (fun e h => HX.out e (by rw [← HXX.out]; exact leafX_e4 (by rw [HMO.out]; exact E1.out) E2.out E3.out h))); clear e1 tok3; have wmm : IntKind.i64.wrap m' = m' := IntWalk.i64_in _ ⟨by omega, by omega⟩; have tok4 : True := trivial; have y3 := unfroz H3 2; have y3c := (blk6 H3).2.2.1; obtain ⟨wb, hwb, HM, q⟩ := set_grown H3 2 (.int .i64 m'); simp only [List.setIfInBounds_toArray, List.set_cons_zero, List.set_cons_succ] at HM; replace gr := grown_own gr q (fun i h => by injection h with h; omega); replace HR := HR.grown q (fun h => hq3 (by injection h with h; exact h.symm)); replace H2 := grown_blk' q H2 (fun k => n2 (by injection k)); replace HN := HN.blk q H3 (by decide); clear q; clear H3; have H3 := HM; clear HM)
      | (go_at_call 56; have _t := tok4; clear y3 y3c hwb wmm; go_loud (have ct := hNu.out _ gr j3 HR hj3 8 0 18446744073709551615 (by omega) hX4.out); refine ct.mono ?_; clear ct; rintro e wa4 ⟨q, ⟨cc, hcc, he⟩ | ⟨s', j4, e1, rfl, HRa, hj4, hs0, hs1, _⟩⟩; (· (unfold gaveUp at he; subst he; exact ⟨rfl, (grown_trans gr q), .inl ⟨cc, hcc, rfl⟩⟩)); replace gr := grown_trans gr q; replace H2 := grown_blk' q H2 (fun k => hq2 (by injection k)); replace HN := HN.keep q hgB; replace H3 := grown_blk' q H3 (fun k => hq3 (by injection k)); clear q HR; have HR := HRa; clear HRa; have E4 := Lib.hid e1; (have hX5 : Hid (∀ e, (numX L 1 1 63 (.ok j4)).2 = .error e → X e) := Lib.hid (fun e h => HX.out e (by rw [← HXX.out]; exact leafX_e5 (by rw [HMO.out]; exact E1.out) E2.out E3.out E4.out h))); clear e1 tok4; have tok5 : True := trivial; have y4 := unfroz H3 3; have y4c := (blk6 H3).2.2.2.1; obtain ⟨wb2, hwb2, HM, q⟩ := set_grown H3 3 (.int .u64 s'); simp only [List.setIfInBounds_toArray, List.set_cons_zero, List.set_cons_succ] at HM; replace gr := grown_own gr q (fun i h => by injection h with h; omega); replace HR := HR.grown q (fun h => hq3 (by injection h with h; exact h.symm)); replace H2 := grown_blk' q H2 (fun k => n2 (by injection k)); replace HN := HN.blk q H3 (by decide); clear q; clear H3; have H3 := HM; clear HM)
      | (go_at_call 56; have _t := tok5; clear y4 y4c hwb2; go_loud (have ct := hNu.out _ gr j4 HR hj4 1 1 63 (by omega) hX5.out); refine ct.mono ?_; clear ct; rintro e wa5 ⟨q, ⟨cc, hcc, he⟩ | ⟨l', j5, e1, rfl, HRa, hj5, hl1, hl63, hl0⟩⟩; (· (unfold gaveUp at he; subst he; exact ⟨rfl, (grown_trans gr q), .inl ⟨cc, hcc, rfl⟩⟩)); replace gr := grown_trans gr q; replace H2 := grown_blk' q H2 (fun k => hq2 (by injection k)); replace HN := HN.keep q hgB; replace H3 := grown_blk' q H3 (fun k => hq3 (by injection k)); clear q HR; have HR := HRa; clear HRa; have E5 := Lib.hid e1; clear e1 tok5; obtain ⟨ll, hll⟩ : ∃ n : Nat, l' = (n : Int) := ⟨_, (Int.toNat_of_nonneg hl0).symm⟩; subst hll; have wl : IntKind.i64.wrap (ll : Int) = (ll : Int) := IntWalk.i64_in _ ⟨by omega, by omega⟩; (have HX6 : Hid (XX = leafE gtB L false ns kk t' m' s' (takeX L ll (.ok j5)).1 (takeX L ll (.ok j5)).2) := Lib.hid (by have h := leafX_6 (gt := gtB) (dry := false) (by rw [HMO.out]; exact E1.out) E2.out E3.out E4.out E5.out; rw [Int.toNat_natCast, Int.toNat_natCast] at h; exact HXX.out.symm.trans h)); (have hX6 : Hid (∀ e, (takeX L ll (.ok j5)).2 = .error e → X e) := Lib.hid (fun e h => HX.out e (by rw [HX6.out]; exact leafE_err h))); have tok6 : True := trivial)
      | (go_at_call 37; have _t := tok6; go_loud (have ct := hTk.out _ gr j5 HR hj5 ll (by omega) hX6.out); refine ct.mono ?_; clear ct; rintro e wn ⟨q, ⟨cc, hcc, he⟩ | ⟨nb, o', dn, e1, rfl, hdn, hbl, hBn, HRa, hjl⟩⟩; (· (unfold gaveUp at he; subst he; exact ⟨rfl, (grown_trans gr q), .inl ⟨cc, hcc, rfl⟩⟩)); go_loud (replace gr := grown_trans gr q; replace H2 := grown_blk' q H2 (fun k => hq2 (by injection k)); replace HN := HN.keep q hgB; replace H3 := grown_blk' q H3 (fun k => hq3 (by injection k)); clear q HR; have HR := HRa; clear HRa); have E6 := Lib.hid e1; clear e1 tok6 wl; subst hbl; go_loud (have hcv := conv_str wn hBn (by omega) dn); (obtain ⟨nm, hnm⟩ : ∃ s, strOfNums nb = s := ⟨_, rfl⟩); rw [hnm] at hcv; have HNM := Lib.hid hnm; clear hnm))
    have hnms : nm.size ≤ 63 := by rw [← HNM.out, str_size]; omega
    have hkn : kk ≤ ns.length := by omega
    obtain ⟨iS, hiS, hzS, hsS, hyS⟩ := info_string
    have hsrc := NO.src HN kk hkn
    have HF0 := Lib.hid (And.intro H2 (And.intro H3 (And.intro HN HR)))
    obtain ⟨v6, w6, hap6, O6, q6, hob6⟩ := append_src Tryd.underlying75 hiS hzS hsS hyS rfl (by decide) 75 (NO.nil wn w.heap.size) A kk (if A = none then 0 else cn) _ hsrc (by rw [List.length_map, List.length_take]; omega) (fun u hu => by obtain ⟨x, _, rfl⟩ := List.mem_map.1 hu; rfl) (by simp [maxLen]; omega) (by simp; omega) gr.size
    rw [show ([] : List ByteArray).length + kk = kk by simp, show ([] : List ByteArray).map Value.string ++ (ns.take kk).map Value.string = (ns.take kk).map Value.string by simp] at O6
    have gr6 : w.grownBy w6 (some g) := grown_trans gr (grown_none q6)
    have H26 := grown_blk' q6 H2 (by simp [Value.ownBlock])
    have H36 := grown_blk' q6 H3 (by simp [Value.ownBlock])
    have q6' : wn.grownBy w6 none := q6
    have HN6 : NO w6 B (.slice A ns.length cn) ns := World.ownsRow.kept (row := none) HN q6' (by cases (Value.slice A ns.length cn).ownBlock <;> simp)
    have HR6 := HR.grown q6 (by simp [Value.ownBlock])
    obtain ⟨w7, g7, hg7, hw7, f7, hz7, H7⟩ := boxedN (hok.out _ gr6) #[.string nm] 9
    have O7 := own_fr O6 f7
    obtain ⟨v8, w8, hap8, O8, q8, hob8⟩ := append_src Tryd.underlying75 hiS hzS hsS hyS rfl (by decide) 75 O7 (some ⟨g7, 0, none⟩) 1 1 _ (Src.lit H7 1 1) (by simp) (by simp [Value.oneCell']) (by unfold maxLen; omega) (by omega) (by have := gr6.size; have := f7.size; omega)
    obtain ⟨g12, c12, hv8, hb12, hl12⟩ := World.ownsRow.form O8 (by omega)
    subst hv8
    have hne8 : some g3 ≠ v6.ownBlock ∧ some g2 ≠ v6.ownBlock ∧ some g ≠ v6.ownBlock := by
      have h1 := (Array.getElem?_eq_some_iff.1 H3).1
      have h2 := (Array.getElem?_eq_some_iff.1 H2).1
      have h3 := (Array.getElem?_eq_some_iff.1 HR).1
      rcases hob6 with e | e
      · rw [e]; exact ⟨by simp [Value.ownBlock], by simp [Value.ownBlock], by simp [Value.ownBlock]⟩
      · rw [e]; refine ⟨?_, ?_, ?_⟩ <;> (intro e2; injection e2 with e2; omega)
    have H28 := grown_blk' q8 (f7.heap H26) hne8.2.1
    have H38 := grown_blk' q8 (f7.heap H36) hne8.1
    have HR8 := (HR6.fr f7).grown q8 hne8.2.2
    have gr8 : w.grownBy w8 (some g) := grown_own (grown_fr gr6 f7) q8 (fun k hk => (World.ownsRow.lt O7 k hk).1)
    have HN8 : NO w8 B (.slice A ns.length cn) ns := World.ownsRow.kept (HN6.fr f7) q8 (by
      rcases hob6 with e | e
      · rw [e]; show _ ∨ _ ≠ none; cases (Value.slice A ns.length cn).ownBlock <;> simp
      · right; rw [e]; intro e2
        have := (World.ownsRow.lt HN _ e2).2; omega)
    have HNN : Hid (NO w8 w.heap.size (.slice (some ⟨g12, 0, none⟩) (kk + 1) c12) (ns.take kk ++ [nm])) := Lib.hid (by
      unfold NO
      rw [List.length_append, List.length_take, Nat.min_eq_left hkn, List.map_append]
      exact O8)
    have HFm := HN.form
    have HF1 := Lib.hid (And.intro H28 (And.intro H38 (And.intro gr8 (And.intro HN8 HR8))))
    clear H28 H38 HR8 gr8 HN8 O8 hne8 hob8 q8 O7 f7 HR6 HN6 H36 H26 gr6 q6 q6' O6 hsrc HR HN H2 H3 gr hob6 hb12 HF0
    go_cut [12] (fun v12 wc => v12 = .slice (some ⟨g12, 0, none⟩) (kk + 1) c12 ∧ wc = w8)
    case first =>
      have tokA : True := trivial
      have k0 : (0 : Int) ≤ (kk : Int) := by omega
      rcases HFm with ⟨hv, hnil⟩ | ⟨ga, ca, hv, hca, _, _⟩
      · injection hv with e1 e2 e3
        subst e1 e3
        have hk0 : kk = 0 := by rw [hnil] at hkn; simpa using hkn
        subst hk0
        rw [if_pos rfl] at hap6
        clear e2 hnil
        go_wp2_with (first
          | (at_builtin; have _t := tokA; refine wpList_append_run rfl _ _ 75 75 rfl (by simp [Act.eval]) (by simp [Act.eval]) hap6 ?_; clear tokA)
          | (at_builtin; refine wpList_append_run rfl _ _ 75 75 rfl (by simp [Act.eval]) (by simp [Act.eval]) hap8 ?_))
        go_meet
        exact ⟨rfl, rfl⟩
      · injection hv with e1 e2 e3
        subst e1 e3
        have k1 : (kk : Int) ≤ (cn : Int) := by omega
        rw [if_neg (by simp)] at hap6
        clear e2
        go_wp2_with (first
          | (at_builtin; have _t := tokA; refine wpList_append_run rfl _ _ 75 75 rfl (by simp [Act.eval]) (by simp [Act.eval]) hap6 ?_; clear tokA)
          | (at_builtin; refine wpList_append_run rfl _ _ 75 75 rfl (by simp [Act.eval]) (by simp [Act.eval]) hap8 ?_))
        go_meet
        exact ⟨rfl, rfl⟩
    case rest =>
      obtain ⟨rfl, rfl⟩ := hcut
      obtain ⟨H2, H3, gr, HN, HR⟩ := HF1.out
      clear hap6 hap8 HFm HF1
      obtain ⟨PN, hPN⟩ : ∃ P, pathOf (ns.take kk ++ [nm]) = P := ⟨_, rfl⟩
      have HPN := Lib.hid hPN
      obtain ⟨u1, hu1⟩ : ∃ b, (nm.toList == [46, 46]) = b := ⟨_, rfl⟩
      obtain ⟨u2, hu2⟩ : ∃ b, ((kk : Int) == (ns.length : Int)) = b := ⟨_, rfl⟩
      have hX191 : Hid (badB gtB nm ns kk PN = true → X 191) := Lib.hid (fun h => HX.out 191 (by
        rw [HX6.out, E6.out]; dsimp only; rw [leafE_bad h HNM.out HPN.out]))
      have hup : u1 = true → badB gtB nm ns kk PN = true := fun h => badB_iff.2 (.inl (by
        rw [h] at hu1
        have h2 : nm.toList = [46, 46] := by simpa using hu1
        rw [toL] at h2
        unfold nameB; simp [h2]))
      have HUP := Lib.hid hup
      have hu2' : u2 = true ↔ kk = ns.length := by rw [← hu2]; simp; omega
      have HU2 := Lib.hid hu2'
      have hFr := Fr.refl (hok.out _ gr)
      clear hup hu2' hPN
      go_upto_region 10 with fail
      go_cut [] (fun wc' => wc' = wc ∧ u1 = false ∧ (kk < ns.length → gtB nm (ns.getD kk ⟨#[]⟩) = true))
      case first =>
        have HF2 := Lib.hid gr
        cases u1 with
        | true =>
          have hx := Lib.hid (hX191.out (HUP.out rfl))
          clear H2 H3 gr HN HR hFr
          go_wp2_with (go_at_call 69; refine (must_no _ _).mono ?_; rintro e wy ⟨he, rfl⟩; unfold gaveUp at he; subst he)
          exact ⟨rfl, HF2.out, .inl ⟨191, hx.out, rfl⟩⟩
        | false =>
          cases u2 with
          | true =>
            have hkl := HU2.out.1 rfl
            have HKL := Lib.hid hkl
            clear H2 H3 gr HN HR hkl hFr
            go_wp2_with (go_at_call 69; refine (must_yes _ _).mono ?_; rintro e wy ⟨rfl, rfl⟩)
            go_meet
            exact ⟨rfl, trivial, fun h => absurd h (by have := HKL.out; omega)⟩
          | false =>
            have hkl : kk < ns.length := by
              by_cases h : kk = ns.length
              · have := HU2.out.2 h; cases this
              · omega
            rcases HN.form with ⟨_, hnil⟩ | ⟨ga, ca, hv, hca, _, _⟩
            · rw [hnil] at hkl; simp at hkl
            · injection hv with e1 e2 e3
              subst e1 e3
              have hcell := HN.at kk hkl
              have hgd : ns.getD kk ⟨#[]⟩ = ns[kk] := by simp [List.getD, hkl]
              have i0 : (0 : Int) ≤ (kk : Int) := by omega
              have i1 : (kk : Int) < (ns.length : Int) := by omega
              obtain ⟨x, hx⟩ : ∃ x, ns[kk] = x := ⟨_, rfl⟩
              rw [hx] at hcell hgd
              obtain ⟨u3, hu3⟩ : ∃ b, (Op.bytesLess nm.toList x.toList || nm.toList == x.toList) = b := ⟨_, rfl⟩
              have hg3 : gtB nm (ns.getD kk ⟨#[]⟩) = !u3 := by rw [hgd, ← hu3]; rfl
              have HG3 := Lib.hid hg3
              have HKL := Lib.hid hkl
              clear H2 H3 gr HN HR hkl hg3 hgd hx e2 hFr
              cases u3 with
              | false =>
                go_wp2_with (go_at_call 69; refine (must_yes _ _).mono ?_; rintro e wy ⟨rfl, rfl⟩)
                go_meet
                exact ⟨rfl, trivial, fun _ => by rw [HG3.out]; rfl⟩
              | true =>
                have hx := Lib.hid (hX191.out (badB_iff.2 (.inr (.inl ⟨HKL.out, by rw [HG3.out]; rfl⟩))))
                go_wp2_with (go_at_call 69; refine (must_no _ _).mono ?_; rintro e wy ⟨he, rfl⟩; unfold gaveUp at he; subst he)
                exact ⟨rfl, HF2.out, .inl ⟨191, hx.out, rfl⟩⟩
      case rest =>
        obtain ⟨rfl, hu1t, hgt⟩ := hcut
        have hgn : goodNames (ns.take kk ++ [nm]) = !badB gtB nm ns kk PN := goodNames_bad HNS.out hgt HPN.out
        have hlen : (ns.take kk ++ [nm]).length = kk + 1 := by rw [List.length_append, List.length_take, Nat.min_eq_left hkn]; rfl
        have hcap : kk + 1 ≤ c12 := by
          have h := HNN.out
          unfold NO at h
          rw [hlen] at h
          exact own_cap h
        have hjo := join_any g12 c12 (ns.take kk ++ [nm]) wc (hok.out _ gr) hl12 (fun j hj => NO.at HNN.out j hj) (by rw [hlen]; exact hcap) (by simp) (by rw [hlen]; omega) (fun n hn => by
            rcases List.mem_append.1 hn with h | h
            · exact (nameB_all (HNS.out n (List.mem_of_mem_take h))).2.2.2.2
            · rw [List.mem_singleton.1 h, ← toL]; rw [hu1t] at hu1; simpa using hu1) (fun n hn => by
            rcases List.mem_append.1 hn with h | h
            · exact (nameB_all (HNS.out n (List.mem_of_mem_take h))).2.2.2.1
            · rw [List.mem_singleton.1 h]; exact hnms)
        rw [hlen] at hjo
        have HJO := Lib.hid hjo
        have HGN := Lib.hid hgn
        have HNn := HNN.out
        clear hgn hlen hjo hgt hFr hu1t hu1 hu2 HN HNN hcv H7 hg7 hw7 hiS hzS hsS hyS
        go_upto_block 0 with (first
          | (go_at_call 70; refine HJO.out.mono ?_; rintro e wj ⟨⟨s, x, rfl, hx0, hxs⟩, q⟩; replace H2 := q.heap H2; replace H3 := q.heap H3; replace HR := HR.fr q; replace gr := grown_fr gr q; replace HNn := HNn.fr q; clear q; have HX0 := Lib.hid hx0; have HXS := Lib.hid hxs; clear hx0 hxs)
          | (go_at_call 69; go_loud (refine (must_or X _ _ _ (fun h => hX191.out (by have h2 : ¬ x = 0 := (by simpa using h); have h3 := mt HX0.out.2 h2; rw [HGN.out] at h3; simpa using h3))).mono ?_); rintro e wy ⟨rfl, ⟨cc, hcc, he⟩ | ⟨hb, rfl⟩⟩; (· (unfold gaveUp at he; subst he; exact ⟨rfl, gr, .inl ⟨cc, hcc, rfl⟩⟩)); go_loud (have hgd : goodNames (ns.take kk ++ [nm]) = true := HX0.out.1 (by simpa using hb)); (have HBD : Hid (badB gtB nm ns kk PN = false) := Lib.hid (by rw [HGN.out] at hgd; simpa using hgd)); have hss := HXS.out hgd; rw [HPN.out] at hss; subst hss; clear hb hgd; have y5 := unfroz H3 0; have y5c := (blk6 H3).1; go_loud (obtain ⟨wb4, hwb4, HM, q⟩ := set_grown H3 0 (.string s); simp only [List.setIfInBounds_toArray, List.set_cons_zero, List.set_cons_succ] at HM; replace gr := grown_own gr q (fun i h => by injection h with h; omega); replace HR := HR.grown q (fun h => hq3 (by injection h with h; exact h.symm)); replace H2 := grown_blk' q H2 (fun k => n2 (by injection k)); replace HNn := HNn.blk q H3 (by decide); clear q H3; have H3 := HM; clear HM); have t1 := (blk6 H3).2.1))
        clear y5 y5c hwb4
        have HLN : Hid ((ns.take kk ++ [nm]).length = kk + 1) := Lib.hid (by rw [List.length_append, List.length_take, Nat.min_eq_left hkn]; rfl)
        have hXE : XX = leafE gtB L false ns kk t' m' s' nb (.ok (j5 + nb.length)) := by
          have h := HX6.out
          rw [E6.out] at h
          exact h
        have HXE := Lib.hid hXE
        obtain ⟨jj, hjj⟩ : ∃ j, j5 + nb.length = j := ⟨_, rfl⟩
        rw [hjj] at HXE hjl HR
        clear hXE hjj
        by_cases h1 : t' = 1
        · subst h1
          have hP := HXE.out.trans (leafE_file HBD.out HNM.out HPN.out)
          have HP := Lib.hid hP
          have hxd : Hid (∀ e, (dataR L false (numX L 4 0 16777216 (.ok jj)).1 (numX L 4 0 16777216 (.ok jj)).2).2 = .error e → X e) := Lib.hid (fun e h => HX.out e (by rw [HP.out]; exact h))
          have HSZ := Lib.hid gr.size
          have hb3 := (Array.getElem?_eq_some_iff.1 H3).1
          have hb2 := (Array.getElem?_eq_some_iff.1 H2).1
          clear hP
          go_wp2_with (go_at_call 71; go_loud (refine (hDa.out _ gr jj HR hjl hxd.out).mono ?_); rintro e wd ⟨q, ⟨cc, hcc, he⟩ | ⟨bs, j2, da, dd, hD, rfl, HO, HRa, hj2⟩⟩; (· (unfold gaveUp at he; subst he; exact ⟨rfl, (grown_trans gr q), .inl ⟨cc, hcc, rfl⟩⟩)); replace gr := grown_trans gr q; replace H2 := grown_blk' q H2 (fun k => hq2 (by injection k)); replace H3 := grown_blk' q H3 (fun k => hq3 (by injection k)); replace HNn := HNn.keep q hgw; clear q HR; have HR := HRa; clear HRa; clear t1; have HDD := Lib.hid hD; clear hD; have u4 := unfroz H3 4; have u4c := (blk6 H3).2.2.2.2.1; obtain ⟨wb5, hwb5, HM, q⟩ := set_grown H3 4 (.slice da bs.length dd); simp only [List.setIfInBounds_toArray, List.set_cons_zero, List.set_cons_succ] at HM; replace gr := grown_own gr q (fun i h => by injection h with h; omega); replace HR := HR.grown q (fun h => hq3 (by injection h with h; exact h.symm)); replace H2 := grown_blk' q H2 (fun k => n2 (by injection k)); replace HNn := HNn.blk q H3 (by decide); (have HO2 := Lib.hid (HO.keep q hb3)); clear q H3 HO; have H3 := HM; clear HM; obtain ⟨y0, y1, y2, y3, y4, y5⟩ := blk6 H3; obtain ⟨i0, i1, i2, i3, i4, i5⟩ := blk6 H2; have z0 := unfroz H2 0; have z1 := unfroz H2 1; have z2 := unfroz H2 2; have z3 := unfroz H2 3; have z4 := unfroz H2 4; have z5 := unfroz H2 5; obtain ⟨w9, hw9, q9, H29⟩ := set6all H2 (.string s) (.int .i64 1) (.int .i64 m') (.int .u64 s') (.slice da bs.length dd) (.string ⟨#[]⟩); (have HF := Lib.hid (And.intro (grown_own gr q9 (fun i h => by injection h with h; omega)) (And.intro (PB.grown HR q9 (fun h => hq2 (by injection h with h; exact h.symm))) (And.intro q9 (And.intro H29 (HNn.blk q9 H2 (by decide))))))); (have H2t := Lib.hid H2); clear gr HR q9 H29 H2 H3 HNn)
          refine bodyPost_ret (results_row_tmp rfl _ _ g2 45 _ (0, 0) _ rfl HF.out.2.2.2.1 Tryd.underlying45 rfl (by kernel_rfl)) rfl ?_
          exact ⟨HF.out.1, .inr ⟨⟨s, 1, m', s', bs, ⟨#[]⟩⟩, ns.take kk ++ [nm], j2, _, _, some ⟨g12, 0, none⟩, c12, (by rw [HP.out, HDD.out]), (by rw [HLN.out]; rfl), ((HO2.out.keep HF.out.2.2.1 hb2).low HSZ.out), (by rw [HLN.out]; exact HF.out.2.2.2.2), HF.out.2.1, hj2⟩⟩
        · have d8 : (t' == 1) = false := by simpa using h1
          by_cases h3 : t' = 3
          · subst h3
            have hP := HXE.out.trans (leafE_link HBD.out HNM.out HPN.out)
            have HP := Lib.hid hP
            have hXa : Hid (∀ e, (numX L 1 1 127 (.ok jj)).2 = .error e → X e) := Lib.hid (fun e h => HX.out e (by rw [HP.out]; dsimp only; rw [takeX_err h]; rfl))
            have tok7 : True := trivial
            clear hP h1
            go_wp2_with (first
              | (go_at_call 56; have _t := tok7; go_loud (have ct := hNu.out _ gr jj HR hjl 1 1 127 (by omega) hXa.out); refine ct.mono ?_; clear ct; rintro e wa7 ⟨q, ⟨cc, hcc, he⟩ | ⟨nt, j7, e1, rfl, HRa, hj7, hn1, hn127, hn0⟩⟩; (· (unfold gaveUp at he; subst he; exact ⟨rfl, (grown_trans gr q), .inl ⟨cc, hcc, rfl⟩⟩)); replace gr := grown_trans gr q; replace H2 := grown_blk' q H2 (fun k => hq2 (by injection k)); replace H3 := grown_blk' q H3 (fun k => hq3 (by injection k)); replace HNn := HNn.keep q hgw; clear q HR; have HR := HRa; clear HRa; have E7 := Lib.hid e1; clear e1 tok7 t1; obtain ⟨tt, htt⟩ : ∃ n : Nat, nt = (n : Int) := ⟨_, (Int.toNat_of_nonneg hn0).symm⟩; subst htt; have wtt : IntKind.i64.wrap (tt : Int) = (tt : Int) := IntWalk.i64_in _ ⟨by omega, by omega⟩; (have hXb : Hid (∀ e, (takeX L tt (.ok j7)).2 = .error e → X e) := Lib.hid (fun e h => HX.out e (by rw [HP.out, E7.out]; dsimp only; rw [Int.toNat_natCast, h]; rfl))))
              | (go_at_call 37; go_loud (have ct := hTk.out _ gr j7 HR hj7 tt (by omega) hXb.out); refine ct.mono ?_; clear ct; rintro e wn7 ⟨q, ⟨cc, hcc, he⟩ | ⟨tb, o7, dn7, e1, rfl, hdn7, hbl7, hBn7, HRa, hj8⟩⟩; (· (unfold gaveUp at he; subst he; exact ⟨rfl, (grown_trans gr q), .inl ⟨cc, hcc, rfl⟩⟩)); replace gr := grown_trans gr q; replace H2 := grown_blk' q H2 (fun k => hq2 (by injection k)); replace H3 := grown_blk' q H3 (fun k => hq3 (by injection k)); replace HNn := HNn.keep q hgw; clear q HR; have HR := HRa; clear HRa; have E8 := Lib.hid e1; clear e1 wtt; subst hbl7; go_loud (have hcv := conv_str wn7 hBn7 (by omega) dn7); (obtain ⟨tg, htg⟩ : ∃ s, strOfNums tb = s := ⟨_, rfl⟩); rw [htg] at hcv; have HTG := Lib.hid htg; clear htg; have u5 := unfroz H3 5; have u5c := (blk6 H3).2.2.2.2.2; obtain ⟨wb7, hwb7, HM, q⟩ := set_grown H3 5 (.string tg); simp only [List.setIfInBounds_toArray, List.set_cons_zero, List.set_cons_succ] at HM; replace gr := grown_own gr q (fun i h => by injection h with h; omega); replace HR := HR.grown q (fun h => hq3 (by injection h with h; exact h.symm)); replace H2 := grown_blk' q H2 (fun k => n2 (by injection k)); replace HNn := HNn.blk q H3 (by decide); clear q H3; have H3 := HM; clear HM; have v5 := (blk6 H3).2.2.2.2.2; (have hXc : Hid (targetB tg = false → X 191) := Lib.hid (fun h => HX.out 191 (by rw [HP.out, E7.out]; dsimp only; rw [Int.toNat_natCast, E8.out]; dsimp only; rw [HTG.out, h]; rfl))))
              | (go_at_call 64; refine (goodTarget_any tg _).mono ?_; rintro e wg ⟨rfl, rfl⟩)
              | (go_at_call 69; go_loud (refine (must_or X _ _ _ (fun h => hXc.out h)).mono ?_); rintro e wy ⟨rfl, ⟨cc, hcc, he⟩ | ⟨hb, rfl⟩⟩; (· (unfold gaveUp at he; subst he; exact ⟨rfl, gr, .inl ⟨cc, hcc, rfl⟩⟩)); have HTB := Lib.hid hb; clear hb u5 u5c hwb7 hcv v5; obtain ⟨y0, y1, y2, y3, y4, y5⟩ := blk6 H3; obtain ⟨i0, i1, i2, i3, i4, i5⟩ := blk6 H2; have z0 := unfroz H2 0; have z1 := unfroz H2 1; have z2 := unfroz H2 2; have z3 := unfroz H2 3; have z4 := unfroz H2 4; have z5 := unfroz H2 5; obtain ⟨w9, hw9, q9, H29⟩ := set6all H2 (.string s) (.int .i64 3) (.int .i64 m') (.int .u64 s') (.slice none 0 0) (.string tg); (have HF := Lib.hid (And.intro (grown_own gr q9 (fun i h => by injection h with h; omega)) (And.intro (PB.grown HR q9 (fun h => hq2 (by injection h with h; exact h.symm))) (And.intro q9 (And.intro H29 (HNn.blk q9 H2 (by decide))))))); (have H2t := Lib.hid H2); clear gr HR q9 H29 H2 H3 HNn))
            refine bodyPost_ret (results_row_tmp rfl _ _ g2 45 _ (0, 0) _ rfl HF.out.2.2.2.1 Tryd.underlying45 rfl (by kernel_rfl)) rfl ?_
            exact ⟨HF.out.1, .inr ⟨⟨s, 3, m', s', [], tg⟩, ns.take kk ++ [nm], (j7 + tb.length), _, _, some ⟨g12, 0, none⟩, c12, (by rw [HP.out, E7.out]; dsimp only; rw [Int.toNat_natCast, E8.out]; dsimp only; rw [HTG.out, HTB.out]; rfl), (by rw [HLN.out]; rfl), (OwnB.nil _ _), (by rw [HLN.out]; exact HF.out.2.2.2.2), HF.out.2.1, hj8⟩⟩
          · have d9 : (t' == 3) = false := by simpa using h3
            have hP := HXE.out.trans (leafE_dir HBD.out HNM.out HPN.out h1 h3)
            have HP := Lib.hid hP
            have hjl9 := hjl
            clear hP h1 h3 t1
            obtain ⟨y0, y1, y2, y3, y4, y5⟩ := blk6 H3; obtain ⟨i0, i1, i2, i3, i4, i5⟩ := blk6 H2; have z0 := unfroz H2 0; have z1 := unfroz H2 1; have z2 := unfroz H2 2; have z3 := unfroz H2 3; have z4 := unfroz H2 4; have z5 := unfroz H2 5; obtain ⟨w9, hw9, q9, H29⟩ := set6all H2 (.string s) (.int .i64 t') (.int .i64 m') (.int .u64 s') (.slice none 0 0) (.string ⟨#[]⟩); (have HF := Lib.hid (And.intro (grown_own gr q9 (fun i h => by injection h with h; omega)) (And.intro (PB.grown HR q9 (fun h => hq2 (by injection h with h; exact h.symm))) (And.intro q9 (And.intro H29 (HNn.blk q9 H2 (by decide))))))); (have H2t := Lib.hid H2); clear gr HR q9 H29 H2 H3 HNn
            go_wp2_with fail
            refine bodyPost_ret (results_row_tmp rfl _ _ g2 45 _ (0, 0) _ rfl HF.out.2.2.2.1 Tryd.underlying45 rfl (by kernel_rfl)) rfl ?_
            exact ⟨HF.out.1, .inr ⟨⟨s, t', m', s', [], ⟨#[]⟩⟩, ns.take kk ++ [nm], jj, _, _, some ⟨g12, 0, none⟩, c12, HP.out, (by rw [HLN.out]; rfl), (OwnB.nil _ _), (by rw [HLN.out]; exact HF.out.2.2.2.2), HF.out.2.1, hjl9⟩⟩
end Go.Proofs.YtlnaeppbhjmocaaDoor
set_option linter.unusedSimpArgs false
set_option linter.unusedVariables false
namespace Go.Proofs.YtlnaeppbhjmocaaDoor
open Go.RowKit Go.Proofs Go.Proofs.YtlnaeppbhjmocaaDoorW.PrintWords Go.Proofs.YtlnaeppbhjmocaaDoorW.PrintMore

theorem treeX_err2 {gt : ByteArray → ByteArray → Bool} {L : List Int} {dry : Bool} {f : Nat} {acc : List Lf} {ns : List ByteArray} {dir : Bool} {o : Er} {e : Int} (h : o = .error e) : (treeX gt L dry f acc ns dir o).2 = .error e := by
  subst h; rw [treeX_error]
def TreeOut (X : Int → Prop) (B : Nat) (g : Nat) (A : Option Addr) (c : Nat) (L : List Int) (P : List Lf × Er) (e : Ending) (w' : World) : Prop :=
  (∃ x, X x ∧ e = gaveUp x) ∨ ∃ v j, e = .returned v ∧ TreeAt w' B v P.1 ∧ (takeX L 1 P.2).2 = .ok j ∧ PB w' g A c L j ∧ j ≤ L.length

set_option maxHeartbeats 25600000 in
set_option maxRecDepth 100000 in
theorem ptree_any (X : Int → Prop) (g gb ob c : Nat) (L : List Int) (i : Nat) (w : World) (hw : Ok w) (H : PB w g (some ⟨gb, ob, none⟩) c L i) (hi : i ≤ L.length) (hA : BytesAt w (some ⟨gb, ob, none⟩) L) (hgb : gb ≠ g) (hb : bytesOk L) (hc : L.length ≤ c) (hL : L.length ≤ 1073741824) (hg : 4 ≤ g)
    (hX : ∀ e, (takeX L 1 (treeR L (numX L 2 0 4095 (.ok i)) (numX L 8 0 18446744073709551615 (numX L 2 0 4095 (.ok i)).2)).2).2 = .error e → X e) :
    Calls Tryd.prog 36 #[.pointer (some ⟨g, 0, none⟩)] w fun e w' => w.grownBy w' (some g) ∧ TreeOut X w.heap.size g (some ⟨gb, ob, none⟩) c L (treeR L (numX L 2 0 4095 (.ok i)) (numX L 8 0 18446744073709551615 (numX L 2 0 4095 (.ok i)).2)) e w' := by
  have hgS : ∀ a, ((some ⟨gb, ob, none⟩) : Option Addr) = some a → some a.block ≠ some g := fun a e k => by injection e with e; subst e; injection k with k; exact hgb k
  have hgw : g < w.heap.size := (Array.getElem?_eq_some_iff.mp H).1
  obtain ⟨M, hM⟩ : ∃ p, numX L 2 0 4095 (.ok i) = p := ⟨_, rfl⟩
  rw [hM] at hX ⊢
  obtain ⟨S, hS⟩ : ∃ p, numX L 8 0 18446744073709551615 M.2 = p := ⟨_, rfl⟩
  rw [hS] at hX ⊢
  obtain ⟨PP, hPP⟩ : ∃ p, treeR L M S = p := ⟨_, rfl⟩
  rw [hPP] at hX ⊢
  have hNu := Lib.hid (fun (W : World) (gr : w.grownBy W (some g)) i HR hi s lo hi' h1 hx => num_or X g gb ob c L i s lo hi' W (hw.grown hg gr) HR hi (hA.grown gr hgS) hgb hb h1 hc hL hg hx)
  have hTk := Lib.hid (fun (W : World) (gr : w.grownBy W (some g)) i HR hi k h1 hx => take_or X g gb ob c L i k W (hw.grown hg gr) HR hi (hA.grown gr hgS) hgb h1 hc hL hg hx)
  have hLf := Lib.hid (fun (W : World) (gr : w.grownBy W (some g)) i HR hi ns A cn dir HN hns hd hne hx => pleaf_any X g gb ob c L i W (hw.grown hg gr) HR hi (hA.grown gr hgS) hgb hb hc hL hg ns A cn w.heap.size dir HN hgw gr.size hns hd hne hx)
  have hok := Lib.hid (fun (W : World) (gr : w.grownBy W (some g)) => hw.grown hg gr)
  have hAg := Lib.hid (fun (W : World) (gr : w.grownBy W (some g)) => hA.grown gr hgS)
  have gr := grown_refl w (some g)
  have HR := H
  have HX := Lib.hid hX
  have HBy := Lib.hid hb
  have HM := Lib.hid hM
  have HS := Lib.hid hS
  have HPP := Lib.hid hPP
  have hX1 : Hid (∀ e, (numX L 2 0 4095 (.ok i)).2 = .error e → X e) := Lib.hid (fun e h => HX.out e (by
    rw [← HPP.out]; refine takeX_err ?_; unfold treeR; refine treeX_err2 ?_
    rw [← HS.out]; refine numX_err ?_; rw [← HM.out]; exact h))
  have hX2 : Hid (∀ e, (numX L 8 0 18446744073709551615 M.2).2 = .error e → X e) := Lib.hid (fun e h => HX.out e (by
    rw [← HPP.out]; refine takeX_err ?_; unfold treeR; refine treeX_err2 ?_
    rw [← HS.out]; exact h))
  obtain ⟨iL, hiL, hzL, hsL, hyL⟩ := info_leaf
  have HG := Lib.hid hiL
  have tok1 : True := trivial
  clear hX hb hM hS hPP H hiL
  go_enter Tryd.func36, Tryd.ntmps36
  go_upto_block 0 with (first
    | (go_at_call 56; have _t := tok1; go_loud (have ct := hNu.out _ gr i HR hi 2 0 4095 (by omega) hX1.out); refine ct.mono ?_; clear ct; rintro e wa ⟨q, ⟨cc, hcc, he⟩ | ⟨m, j1, e1, rfl, HRa, hj1, hm0, hm1, _⟩⟩; (· (unfold gaveUp at he; subst he; exact ⟨rfl, (grown_trans gr q), .inl ⟨cc, hcc, rfl⟩⟩)); replace gr := grown_trans gr q; clear q HR; have HR := HRa; clear HRa; have E1 := Lib.hid e1; clear e1 tok1; have wm : IntKind.i64.wrap m = m := IntWalk.i64_in _ ⟨by omega, by omega⟩; have tok2 : True := trivial; go_loud (obtain ⟨w2, g2, hg2, hw2, f2, hz2, H2⟩ := boxedN (hok.out _ gr) #[.string ⟨#[47]⟩, .int .i64 2, .int .i64 m, .int .u64 0, .slice none 0 0, .string ⟨#[]⟩] 45; have l2 : w.heap.size ≤ g2 := (by have := gr.size; omega); have hq2 : g2 ≠ g := (by omega); replace HR := HR.fr f2; replace gr := grown_fr gr f2; clear f2; obtain ⟨i0, i1, i2, i3, i4, i5⟩ := blk6 H2; have z0 := unfroz H2 0; have z1 := unfroz H2 1; have z2 := unfroz H2 2; have z3 := unfroz H2 3; have z4 := unfroz H2 4; have z5 := unfroz H2 5; have j0 := idemC H2 i0; have j1 := idemC H2 i1; have j2 := idemC H2 i2; have j3 := idemC H2 i3; have j4 := idemC H2 i4; have j5 := idemC H2 i5))
    | (go_at_call 56; have _t := tok2; clear i0 i1 i2 i3 i4 i5 z0 z1 z2 z3 z4 z5 j0 j1 j2 j3 j4 j5; go_loud (have ct := hNu.out _ gr j1 HR hj1 8 0 18446744073709551615 (by omega) (fun e h => hX2.out e (by rw [← HM.out, E1.out]; exact h))); refine ct.mono ?_; clear ct; rintro e wa2 ⟨q, ⟨cc, hcc, he⟩ | ⟨s, j2, e1, rfl, HRa, hj2, hs0, hs1, _⟩⟩; (· (unfold gaveUp at he; subst he; exact ⟨rfl, (grown_trans gr q), .inl ⟨cc, hcc, rfl⟩⟩)); replace gr := grown_trans gr q; replace H2 := grown_blk' q H2 (fun k => hq2 (by injection k)); clear q HR; have HR := HRa; clear HRa; have E2 := Lib.hid e1; clear e1 tok2; have y3 := unfroz H2 3; have y3c := (blk6 H2).2.2.2.1; go_loud (obtain ⟨wb2, hwb2, HMM, q⟩ := set_grown H2 3 (.int .u64 s); simp only [List.setIfInBounds_toArray, List.set_cons_zero, List.set_cons_succ] at HMM; replace gr := grown_own gr q (fun i h => by injection h with h; omega); replace HR := PB.grown HR q (fun h => hq2 (by injection h with h; exact h.symm)); clear q H2; have H2 := HMM; clear HMM; obtain ⟨i0, i1, i2, i3, i4, i5⟩ := blk6 H2; obtain ⟨w5, g5, hg5, hw5, f5, hz5, H5⟩ := boxedN (hok.out _ gr) #[.string ⟨#[47]⟩, .int .i64 2, .int .i64 m, .int .u64 s, .slice none 0 0, .string ⟨#[]⟩] 45; have l5' : w.heap.size ≤ g5 := (by have := gr.size; omega); replace gr := grown_fr gr f5; replace HR := HR.fr f5)))
  have HO0 : Hid (w5.ownsRow w.heap.size 45 6 (.slice (some ⟨g5, 0, none⟩) 1 1) 1 (lflat [(rootLf m s, .slice none 0 0)])) := Lib.hid (own_block H5 l5' (by unfold maxLen; omega) rfl)
  have HLO0 : Hid (LO w5 w.heap.size [(rootLf m s, .slice none 0 0)]) := Lib.hid (fun p hp => by rw [List.mem_singleton.1 hp]; exact OwnB.nil _ _)
  have HT0 : Hid (treeX gtB L false (L.length + 1) [rootLf m s] [] true (.ok j2) = PP) := Lib.hid (by
    have hM := HM.out.symm.trans E1.out
    subst hM
    have hS := HS.out.symm.trans E2.out
    subst hS
    exact HPP.out)
  have HF0 := Lib.hid gr
  have HR0 := Lib.hid HR
  clear i0 i1 i2 i3 i4 i5 y3 y3c hwb2 f5 H5 H2 gr HR hw2 hw5 hX1 hX2 HPP
  go_cut [4] (fun v4 wc => ∃ (a : Option Addr) (tv : List (Lf × Value)) (d j : Nat), v4 = .slice a tv.length d ∧ Hid (PP = (tv.map Prod.fst, .ok j)) ∧ j ≤ L.length ∧ Hid (w.grownBy wc (some g)) ∧ Hid (PB wc g (some ⟨gb, ob, none⟩) c L j) ∧ Hid (wc.ownsRow w.heap.size 45 6 (.slice a tv.length d) tv.length (lflat tv)) ∧ Hid (LO wc w.heap.size tv))
  case first =>
    go_wp2_with fail
    go_loopg [4, 5] (L.length + 1) (fun k v4 v5 wc => ∃ (tv : List (Lf × Value)) (p : Lf × Value) (gt d : Nat) (ns : List ByteArray) (na : Option Addr) (nd j : Nat), v4 = .slice (some ⟨gt, 0, none⟩) (tv.length + 1) d ∧ v5 = .slice na ns.length nd ∧ Hid (treeX gtB L false k ((tv ++ [p]).map Prod.fst) ns (decide (p.1.ty = 2)) (.ok j) = PP) ∧
      L.length < k + j ∧ tv.length ≤ j ∧ j ≤ L.length ∧ Hid (Good ns p.1.ty) ∧ Hid (w.grownBy wc (some g)) ∧ Hid (PB wc g (some ⟨gb, ob, none⟩) c L j) ∧ Hid (wc.ownsRow w.heap.size 45 6 (.slice (some ⟨gt, 0, none⟩) (tv.length + 1) d) (tv.length + 1) (lflat (tv ++ [p]))) ∧ Hid (LO wc w.heap.size (tv ++ [p])) ∧ Hid (NO wc w.heap.size (.slice na ns.length nd) ns))
    case atStart =>
      exact ⟨[], (rootLf m s, .slice none 0 0), g5, 1, [], none, 0, j2, rfl, rfl, (Lib.hid (by simpa [rootLf] using HT0.out)), by omega, Nat.zero_le _, hj2, Lib.hid good_root, HF0, HR0, HO0, HLO0, Lib.hid (NO.nil _ _)⟩
    case round =>
      clear HF0 HR0 HO0 HLO0 HT0
      obtain ⟨tv, p, gt, d, ns, na, nd, j, rfl, rfl, HT, hkj, htj, hjl, HGo, gr, HR, HO, HLO, HN⟩ := hrel
      obtain ⟨c0, c1⟩ := blk2 HR.out
      have fq := Fr.refl (hok.out _ gr.out)
      have hEnd : ¬ (j < L.length ∧ L.getD j 0 ≠ 255) → PP = ((tv ++ [p]).map Prod.fst, .ok j) := fun h => by
        rw [← HT.out]; exact treeX_stop _ _ _ _ _ _ _ _ h
      have HEND := Lib.hid hEnd
      clear hEnd
      by_cases hlt : j < L.length
      · have d3 : decide ((j : Int) < (L.length : Int)) = true := decide_eq_true (by omega)
        have hcell := bytes_cell (hAg.out _ gr.out) j hlt
        have d4 : (0 : Int) ≤ (j : Int) := by omega
        have d5 : (j : Int) < (L.length : Int) := by omega
        have HLT := Lib.hid hlt
        obtain ⟨b, hbb⟩ : ∃ b, L.getD j 0 = b := ⟨_, rfl⟩
        rw [hbb] at hcell
        have HBB := Lib.hid hbb
        clear hbb hlt
        by_cases h255 : b = 255
        · have d6 : (b != 255) = false := by simpa using h255
          have HS5 : Hid (¬ (j < L.length ∧ L.getD j 0 ≠ 255)) := Lib.hid (fun h => h.2 (by rw [HBB.out]; exact h255))
          clear h255
          go_wp2_with fail
          have r_c0 := cell_regrown c0
          have r_c1 := cell_regrown c1
          have r_hcell := cell_regrown hcell
          refine wp_region_quiet_below (by kernel_rfl) (by kernel_rfl) ?_
          repeat (go_big_quiet_step (fail))
          refine wpQuiet_nil ?_
          intro wq hwq
          have q := Fr.regrown fq.ok hwq
          clear hwq r_c0 r_c1 r_hcell
          replace c0 := q.cell c0
          replace c1 := q.cell c1
          replace hcell := q.cell hcell
          replace fq := fq.trans q
          clear q
          go_wp2_with fail
          go_meet
          exact ⟨some ⟨gt, 0, none⟩, tv ++ [p], d, j, by simp, Lib.hid (HEND.out HS5.out), hjl, Lib.hid (grown_fr gr.out fq), Lib.hid (HR.out.fr fq), Lib.hid (by rw [show (tv ++ [p]).length = tv.length + 1 by simp]; exact own_fr HO.out fq), Lib.hid (HLO.out.fr fq)⟩
        · have d6 : (b != 255) = true := by simpa using h255
          have HPk : Hid (j < L.length ∧ L.getD j 0 ≠ 255) := Lib.hid ⟨HLT.out, by rw [HBB.out]; exact h255⟩
          clear h255
          go_wp2_with fail
          have r_c0 := cell_regrown c0
          have r_c1 := cell_regrown c1
          have r_hcell := cell_regrown hcell
          refine wp_region_quiet_below (by kernel_rfl) (by kernel_rfl) ?_
          repeat (go_big_quiet_step (fail))
          refine wpQuiet_nil ?_
          intro wq hwq
          have q := Fr.regrown fq.ok hwq
          clear hwq r_c0 r_c1 r_hcell
          replace c0 := q.cell c0
          replace c1 := q.cell c1
          replace hcell := q.cell hcell
          replace fq := fq.trans q
          clear q
          obtain ⟨⟨pp, pty, pm, ps, pd, pt⟩, pv⟩ := p
          dsimp only at HGo HT
          have gr1 := grown_fr gr.out fq
          have HR1 := HR.out.fr fq
          have HO1 := own_fr HO.out fq
          have HLO1 := HLO.out.fr fq
          have HN1 := HN.out.fr fq
          clear c0 c1 hcell fq gr HR HO HLO HN
          have hgd := HGo.out
          have hX' : Hid (∀ e, (leafX gtB L false ns (pty == 2) (.ok j)).2 = .error e → X e) := Lib.hid (fun e h => HX.out e (by
            refine takeX_err ?_
            rw [← HT.out]
            cases gk with
            | zero => omega
            | succ k =>
              simp only [treeX]
              rw [if_pos HPk.out]
              exact treeX_err2 h))
          have hL0 := HO1
          rw [lflat_snoc] at hL0
          have y1 := own_at (lflat_length tv) hL0 1 _ rfl
          dsimp only at y1
          have htv : tv.length ≤ 1073741824 := by omega
          have hcd : tv.length + 1 ≤ d := own_cap HO1
          have hlast : (tv.length : Int) < ((tv.length + 1 : Nat) : Int) := by omega
          have hlf := hLf.out _ gr1 j HR1 hjl ns na nd (pty == 2) HN1 hgd.names hgd.deep hgd.dir hX'.out
          have HLF := Lib.hid hlf
          have HRb := Lib.hid HR1
          have HO1 := Lib.hid HO1
          have HLO1 := Lib.hid HLO1
          have GR1 := Lib.hid gr1
          clear hlf hgd hL0 HN1 HR1 gr1
          go_wp2_with (first
            | (go_at_call 57; go_loud (refine HLF.out.mono ?_); rintro e wl ⟨q, ⟨cc, hcc, he⟩ | ⟨lf, ns', j', va, vc, na', nd', hP, rfl, HD, HNn, HRn, hj'⟩⟩; (· (unfold gaveUp at he; subst he; exact ⟨rfl, (grown_trans GR1.out q), .inl ⟨cc, hcc, rfl⟩⟩)); clear y1; go_loud (have O1 := own_grown HO1.out q HRb.out (by decide); have LO1 := HLO1.out.cells q HRb.out (by decide); have gr2 := grown_trans GR1.out q; have HD1 := HD.low GR1.out.size; have HN2 := HNn.low GR1.out.size); have HPL := Lib.hid hP; clear hP; go_loud (obtain ⟨w3, g3, hg3, hw3, f3, hz3, H3⟩ := boxedN (hok.out _ gr2) #[.string lf.path, .int .i64 lf.ty, .int .i64 lf.mode, .int .u64 lf.stamp, .slice va lf.data.length vc, .string lf.tgt] 45; obtain ⟨y0, y1, y2, y3, y4, y5⟩ := blk6 H3; obtain ⟨w4, g4, hg4, hw4, f4, hz4, H4⟩ := boxedN f3.ok #[.string lf.path, .int .i64 lf.ty, .int .i64 lf.mode, .int .u64 lf.stamp, .slice va lf.data.length vc, .string lf.tgt] 45; have f34 := f3.trans f4; have O2 := own_fr O1 f34; have LO2 := LO1.fr f34; have HR2 := HRn.fr f34; have gr3 := grown_fr gr2 f34; have HN3 := HN2.fr f34); go_loud (obtain ⟨v5, w5', hap, O5, q5, hob⟩ := append_src Tryd.underlying26 HG.out hzL hsL hyL rfl (by decide) 26 O2 (some ⟨g4, 0, none⟩) 1 1 _ (Src.lit H4 1 1) (by simp) (by simp [Value.oneCell']) (by unfold maxLen; omega) (by omega) gr3.size); go_loud (obtain ⟨ga, d2', hv5, _, _⟩ := World.ownsRow.form O5 (by omega); subst hv5); go_loud (have HF := Lib.hid (And.intro (grown_own gr3 q5 (fun k hk => (World.ownsRow.lt O2 k hk).1)) (And.intro (HR2.grown q5 (pb_ne HR2 O2 (by decide))) (And.intro O5 (And.intro ((LO2.snoc (p := (lf, .slice va lf.data.length vc)) (HD1.fr f34)).own q5 O2 (by decide)) (HN3.own q5 O2 (by decide))))))); clear O1 LO1 HD1 f3 f4 f34 O2 LO2 HR2 gr2 gr3 O5 q5 hob HD HRn q H3 H4 HNn HN2 HN3)
            | (at_builtin; refine wpList_append_run rfl _ _ 26 26 rfl (by simp [Act.eval]) (by simp [Act.eval]) hap ?_))
          cases gk with
          | zero => exact absurd hkj (by omega)
          | succ k =>
            have hpr := leafX_on (by rw [HPL.out])
            obtain ⟨i', e1, a1, b1⟩ := hpr
            injection e1 with e1
            subst e1
            have hG := leafX_Good HBy.out HGo.out HPL.out
            have HGG := Lib.hid hG.2
            have hTT : treeX gtB L false k (((tv ++ [((⟨pp, pty, pm, ps, pd, pt⟩ : Lf), pv)]) ++ [(lf, Value.slice va lf.data.length vc)]).map Prod.fst) ns' (decide (lf.ty = 2)) (.ok j') = PP := by
              have h := HT.out
              simp only [treeX] at h
              rw [if_pos HPk.out] at h
              have hl : leafX gtB L false ns (decide (pty = 2)) (.ok j) = ((lf, ns'), .ok j') := HPL.out
              rw [hl] at h
              simpa using h
            have HTT := Lib.hid hTT
            clear hTT hG
            go_roundg k
            case measure => omega
            case rel =>
              refine ⟨tv ++ [(⟨pp, pty, pm, ps, pd, pt⟩, pv)], (lf, .slice va lf.data.length vc), ga, d2', ns', na', nd', j', by simp, rfl, HTT, by omega, by simp; omega, b1, HGG, Lib.hid HF.out.1, Lib.hid HF.out.2.1, Lib.hid ?_, Lib.hid HF.out.2.2.2.1, Lib.hid HF.out.2.2.2.2⟩
              have h := HF.out.2.2.1
              rw [lflat_snoc]
              simpa [lcell] using h
      · have d3 : decide ((j : Int) < (L.length : Int)) = false := decide_eq_false (by omega)
        have d5 : (L.length : Int) ≤ (j : Int) := by omega
        have d3n : decide (j < L.length) = false := decide_eq_false hlt
        have HS5 : Hid (¬ (j < L.length ∧ L.getD j 0 ≠ 255)) := Lib.hid (fun h => hlt h.1)
        clear hlt
        go_wp2_with fail
        have r_c0 := cell_regrown c0
        have r_c1 := cell_regrown c1
        refine wp_region_quiet_below (by kernel_rfl) (by kernel_rfl) ?_
        repeat (go_big_quiet_step (fail))
        refine wpQuiet_nil ?_
        intro wq hwq
        have q := Fr.regrown fq.ok hwq
        clear hwq r_c0 r_c1
        replace c0 := q.cell c0
        replace c1 := q.cell c1
        replace fq := fq.trans q
        clear q
        go_wp2_with fail
        go_meet
        exact ⟨some ⟨gt, 0, none⟩, tv ++ [p], d, j, by simp, Lib.hid (HEND.out HS5.out), hjl, Lib.hid (grown_fr gr.out fq), Lib.hid (HR.out.fr fq), Lib.hid (by rw [show (tv ++ [p]).length = tv.length + 1 by simp]; exact own_fr HO.out fq), Lib.hid (HLO.out.fr fq)⟩
  case rest =>
    obtain ⟨a, tv, d, j, rfl, HPJ, hjl, gr, HR, HO, HLO⟩ := hcut
    replace gr := gr.out
    replace HR := HR.out
    have HRb := Lib.hid HR
    have hXt : Hid (∀ e, (takeX L 1 (.ok j)).2 = .error e → X e) := Lib.hid (fun e h => HX.out e (by rw [HPJ.out]; exact h))
    clear HF0 HR0 HO0 HLO0 HT0
    go_wp2_with (go_at_call 37; go_loud (have ct := hTk.out _ gr j HR hjl 1 (by omega) hXt.out); refine ct.mono ?_; clear ct; rintro e wn7 ⟨q, ⟨cc, hcc, he⟩ | ⟨tb, o7, dn7, e1, rfl, hdn7, hbl7, hBn7, HRa, hj8⟩⟩; (· (unfold gaveUp at he; subst he; exact ⟨rfl, (grown_trans gr q), .inl ⟨cc, hcc, rfl⟩⟩)); have E1 := Lib.hid e1; have HQ := Lib.hid (And.intro q HRa); clear e1 q HRa hBn7)
    go_ret
    exact ⟨grown_trans gr HQ.out.1, .inr ⟨_, j + 1, rfl, ⟨a, tv, d, rfl, by rw [HPJ.out], own_grown HO.out HQ.out.1 HRb.out (by decide), HLO.out.cells HQ.out.1 HRb.out (by decide)⟩, by rw [HPJ.out]; dsimp only; rw [E1.out], HQ.out.2, hj8⟩⟩
end Go.Proofs.YtlnaeppbhjmocaaDoor
set_option linter.unusedSimpArgs false
set_option linter.unusedVariables false
namespace Go.Proofs.YtlnaeppbhjmocaaDoor
open Go.RowKit Go.Proofs

set_option maxRecDepth 100000 in
theorem catch_idle (p1 p2 : Addr) (w : World) :
    CallsD Tryd.prog 34 #[.pointer (some p1), .pointer (some p2)] .returning w fun e u' w' => e = .returned (.tuple #[]) ∧ u' = .returning ∧ w' = w := by
  refine callsD_of_wpS Tryd.func34 rfl fun c₀ cs hu => ?_
  apply wpS_seq
  apply wpS_region
  simp [wpOpsS, go_sem, recoverD, hu, Tryd.ntmps34, Exit.thenS]
  apply wpS_seq
  apply wpS_region
  simp [wpOpsS, go_sem, Exit.thenS]
  refine wpS_cond (t := false) (by simp [Act.eval, Array.replicate]) ?_
  simp only [Bool.false_eq_true, if_false]
  refine wpS_of_wp (wp_skip ?_)
  cases c₀
  simp_all [bodyPostS, results, Tryd.results34, Exit.thenS]

theorem run_assertF (v : Value) (xT : TypeId) (w : World) : (Instr.typeAssert (.iface 63 v) xT 63 true).run Tryd.prog w = .ok (.tuple #[v, .bool true]) w := by
  simp [Instr.typeAssert, run_underlying Tryd.underlying63, go_sem, Result.andThen]
theorem set_stepF {w0 w : World} {B g : Nat} {cs : Array Value} {t : TypeId} {fz : Nat × Nat} (hb : Below B w0 w) (hB : B ≤ g) (H : w.heap[g]? = some (.cells cs t fz)) (j : Nat) (v : Value) :
    ∃ w1, w.setCell ⟨g, j, none⟩ v = w1 ∧ w1.heap[g]? = some (.cells (cs.setIfInBounds j v) t fz) ∧ Below B w0 w1 ∧ ∀ k o, w.heap[k]? = some o → k ≠ g → w1.heap[k]? = some o :=
  ⟨_, rfl, by simp [World.setCell, Array.getElem?_modify, H], hb.setCell hB v, fun k o hk hne => (Below.heap_setCell w ⟨g, j, none⟩ v k hne).trans hk⟩

set_option maxHeartbeats 3200000 in
set_option maxRecDepth 100000 in
theorem catch_bad (x : Int) (g g1 : Nat) (hg1 : g < g1) (older : List PanicEntry) (w : World)
    (v0 c1 : Value) (H0 : w.heap[g]? = some (.cells #[v0] 26 (0, 0))) (H1 : w.heap[g1]? = some (.cells #[c1] 29 (0, 0))) :
    CallsD Tryd.prog 34 #[.pointer (some ⟨g, 0, none⟩), .pointer (some ⟨g1, 0, none⟩)] (.panicking ({ v := .iface 63 (.agg #[.int .i64 x]), recovered := false } :: older)) w fun e u' w' =>
      e = .returned (.tuple #[]) ∧ u' = .panicking ({ v := .iface 63 (.agg #[.int .i64 x]), recovered := true } :: older) ∧ Below g w w' ∧
      w'.heap[g]? = some (.cells #[.slice none 0 0] 26 (0, 0)) ∧ w'.heap[g1]? = some (.cells #[.int .i64 x] 29 (0, 0)) := by
  refine callsD_of_wpS Tryd.func34 rfl fun c₀ cs hu => ?_
  apply wpS_seq
  apply wpS_region
  simp [wpOpsS, go_sem, recoverD, hu, Tryd.ntmps34, Exit.thenS]
  obtain ⟨Q0, hQ0⟩ : ∃ Q0 : Exit → Act → World → Prop, Q0 = (fun e a' w' => e = .normal ∧ a'.defers = [] ∧ Below g w w' ∧
      w'.heap[g]? = some (.cells #[.slice none 0 0] 26 (0, 0)) ∧ w'.heap[g1]? = some (.cells #[.int .i64 x] 29 (0, 0))) := ⟨_, rfl⟩
  replace hQ0 := Lib.hid hQ0
  refine wpS_of_wp (wp_mono (Q := Q0) ?_ ?_)
  · have ht : (#[.pointer (some ⟨g, 0, none⟩), .pointer (some ⟨g1, 0, none⟩)] ++ (((Array.replicate 16 undef).setIfInBounds 3 (.iface 63 (.agg #[.int .i64 x]))).setIfInBounds 0 (.iface 63 (.agg #[.int .i64 x]))) : Array Value) = #[.pointer (some ⟨g, 0, none⟩), .pointer (some ⟨g1, 0, none⟩), .iface 63 (.agg #[.int .i64 x]), undef, undef, .iface 63 (.agg #[.int .i64 x]), undef, undef, undef, undef, undef, undef, undef, undef, undef, undef, undef, undef] := by simp [Array.replicate, List.replicate]
    rw [ht]
    clear ht
    have hta := run_assertF
    have hlt0 := (Array.getElem?_eq_some_iff.1 H0).1
    have hlt1 := (Array.getElem?_eq_some_iff.1 H1).1
    obtain ⟨gf, hgf⟩ : ∃ gf, w.heap.size = gf := ⟨_, rfl⟩
    obtain ⟨wf, hwf⟩ : ∃ wf, w.alloc (.cells #[.int .i64 x] 63) = wf := ⟨_, rfl⟩
    have b0 : Below g w wf := by rw [← hwf]; exact (Below.refl g w).alloc (by omega) _
    have G0 : wf.heap[g]? = some (.cells #[v0] 26 (0, 0)) := by rw [← hwf, heap_alloc_old w _ hlt0]; exact H0
    have P0 : wf.heap[g1]? = some (.cells #[c1] 29 (0, 0)) := by rw [← hwf, heap_alloc_old w _ hlt1]; exact H1
    have F0 : wf.heap[gf]? = some (.cells #[.int .i64 x] 63 (0, 0)) := by rw [← hwf, ← hgf]; exact heap_alloc_new w _
    obtain ⟨w1, e1, G1, b1, o1⟩ := set_stepF b0 (Nat.le_refl g) G0 0 (.slice none 0 0)
    have n1 : g1 ≠ g := by omega
    have P1 := o1 _ _ P0 n1
    obtain ⟨w8, e8, G8, b8, o8⟩ := set_stepF b1 (Nat.le_of_lt hg1) P1 0 (.int .i64 x)
    have R0 : w8.heap[g]? = some (.cells #[.slice none 0 0] 26 (0, 0)) := by
      have := o8 g _ G1 (by omega)
      simpa only [List.setIfInBounds_toArray, List.set_cons_zero, List.set_cons_succ] using this
    have R1 : w8.heap[g1]? = some (.cells #[.int .i64 x] 29 (0, 0)) := G8
    have f0 := blk1 F0
    have zf := unfroz F0 0
    have jf := idemC F0 f0
    have f1 := blk1 (o1 _ _ F0 (by omega))
    have c0 := blk1 G0
    have z0 := unfroz G0 0
    have y2 := unfroz P1 0
    have q0 := blk1 P1
    have F := Lib.hid (And.intro b8 (And.intro R0 R1))
    clear F0 b0 b1 b8 o1 o8 G0 G1 G8 P0 P1 H0 H1 n1 hlt0 hlt1 R0 R1
    go_wp2
    go_region
    all_goals (rw [hQ0.out]; exact ⟨rfl, rfl, F.out.1.drew, F.out.2⟩)
  · rw [hQ0.out]
    rintro e a' w' ⟨rfl, hd, hb, h0, h1⟩
    exact ⟨hd, _, rfl, .tuple #[], by simp [results, Tryd.results34], rfl, rfl, hb, h0, h1⟩

/-- what Read ends with -/
def ReadOut (w : World) (P : List Lf × Int) (e : Ending) (w' : World) : Prop := ∃ v, e = .returned (.tuple #[v, .int .i64 P.2]) ∧ Fr w w' ∧ TreeAt w' w.heap.size v P.1
set_option maxRecDepth 100000 in
theorem door_bad (x : Int) (T : Array Value) (g g1 : Nat) (hg1 : g < g1) (w0 w : World) (hw0 : Ok w0) (f : Fr w0 w) (hB : w0.heap.size ≤ g)
    (hT2 : T[2]? = some (.pointer (some ⟨g, 0, none⟩))) (hT3 : T[3]? = some (.pointer (some ⟨g1, 0, none⟩)))
    (v0 c1 : Value) (H0 : w.heap[g]? = some (.cells #[v0] 26 (0, 0))) (H1 : w.heap[g1]? = some (.cells #[c1] 29 (0, 0))) :
    Leaves Tryd.prog Tryd.f15 T (fun e w' => ReadOut w0 ([], x) e w') [{ target := .fn (.func 34) #[.pointer (some ⟨g, 0, none⟩), .pointer (some ⟨g1, 0, none⟩)], args := #[] }] (.panicking [{ v := .iface 63 (.agg #[.int .i64 x]), recovered := false }]) w := by
  refine leaves_cons (f := 34) (args := #[.pointer (some ⟨g, 0, none⟩), .pointer (some ⟨g1, 0, none⟩)]) (by simp) (by simp [go_sem]) ?_
  refine (catch_bad x g g1 hg1 [] w v0 c1 H0 H1).mono ?_
  rintro e u' w'' ⟨rfl, rfl, hb, h0, h1⟩
  have q : Fr w0 w'' := Fr.of hw0 (f.below.trans (hb.mono hB))
  have c0 := blk1 h0
  have d0 := blk1 h1
  simp [Leaves, settle, results, Tryd.results15, go_sem, hT2, hT3, c0, d0]
  exact ⟨_, rfl, q, TreeAt.nil _ _⟩
set_option maxRecDepth 100000 in
theorem door_ok (T : Array Value) (g g1 : Nat) (w0 w : World) (v : Value) (x : Int) (lfs : List Lf) (f : Fr w0 w) (hv : TreeAt w w0.heap.size v lfs)
    (hT2 : T[2]? = some (.pointer (some ⟨g, 0, none⟩))) (hT3 : T[3]? = some (.pointer (some ⟨g1, 0, none⟩)))
    (H0 : w.heap[g]? = some (.cells #[v] 26 (0, 0))) (H1 : w.heap[g1]? = some (.cells #[.int .i64 x] 29 (0, 0))) :
    Leaves Tryd.prog Tryd.f15 T (fun e w' => ReadOut w0 (lfs, x) e w') [{ target := .fn (.func 34) #[.pointer (some ⟨g, 0, none⟩), .pointer (some ⟨g1, 0, none⟩)], args := #[] }] .returning w := by
  refine leaves_cons (f := 34) (args := #[.pointer (some ⟨g, 0, none⟩), .pointer (some ⟨g1, 0, none⟩)]) (by simp) (by simp [go_sem]) ?_
  refine (catch_idle _ _ _).mono ?_
  rintro e u' w'' ⟨rfl, rfl, rfl⟩
  have c0 := blk1 H0
  have d0 := blk1 H1
  simp [Leaves, settle, results, Tryd.results15, go_sem, hT2, hT3, c0, d0]
  exact ⟨_, rfl, f, hv⟩
end Go.Proofs.YtlnaeppbhjmocaaDoor
set_option linter.unusedSimpArgs false
set_option linter.unusedVariables false
namespace Go.Proofs.YtlnaeppbhjmocaaDoor
open Go.RowKit Go.Proofs Go.Proofs.YtlnaeppbhjmocaaDoorW.PrintWords Go.Proofs.YtlnaeppbhjmocaaDoorW.PrintMore

theorem bytesIn_of {w : World} {A : Option Addr} {L : List Int} (h : BytesAt w A L) : Lib.BytesIn w A L.length L := fun h0 => by
  rcases h with h | ⟨g, o, rfl, _, h⟩
  · rw [h] at h0; simp at h0
  · exact ⟨g, o, rfl, fun i hi => by rw [show L.getD i 0 = L[i] by simp [List.getD, hi]]; exact h i _ (List.getElem?_eq_getElem hi)⟩
theorem u8_eq (k : Nat) (hk : k ≤ 255) (a : Int) (h : 0 ≤ a ∧ a ≤ 255) : (UInt8.ofNat k == UInt8.ofNat a.toNat) = (a == (k : Int)) := by
  by_cases e : a = (k : Int)
  · subst e; simp
  · rw [show (a == (k : Int)) = false by simpa using e]
    rw [beq_eq_false_iff_ne]
    intro h2
    have := congrArg UInt8.toNat h2
    simp only [UInt8.toNat_ofNat'] at this
    omega
theorem head_prefix {L : List Int} (hb : bytesOk L) : Lib.hasPrefix (Lib.bytesOf L) (Lib.bytesOf [80, 82, 67, 76, 1]) = headB L := by
  by_cases h5 : 5 ≤ L.length
  · rw [headB_iff h5]
    match L, h5, hb with
    | a :: b :: c :: d :: e :: r, _, hb =>
      have ha := hb a (by simp)
      have hb' := hb b (by simp)
      have hc := hb c (by simp)
      have hd := hb d (by simp)
      have he := hb e (by simp)
      have e1 := u8_eq 80 (by omega) a ha
      have e2 := u8_eq 82 (by omega) b hb'
      have e3 := u8_eq 67 (by omega) c hc
      have e4 := u8_eq 76 (by omega) d hd
      have e5 := u8_eq 1 (by omega) e he
      simp only [Lib.hasPrefix, Lib.bytesOf, List.map_cons, List.map_nil, List.isPrefixOf]
      have t80 : (80 : Int).toNat = 80 := rfl
      have t82 : (82 : Int).toNat = 82 := rfl
      have t67 : (67 : Int).toNat = 67 := rfl
      have t76 : (76 : Int).toNat = 76 := rfl
      have t1 : (1 : Int).toNat = 1 := rfl
      rw [t80, t82, t67, t76, t1, e1, e2, e3, e4, e5]
      simp [Bool.and_assoc]
  · rw [headB_len (by omega)]
    match L, h5 with
    | [], _ => rfl
    | [a], _ => simp [Lib.hasPrefix, Lib.bytesOf, List.isPrefixOf]
    | [a, b], _ => simp [Lib.hasPrefix, Lib.bytesOf, List.isPrefixOf]
    | [a, b, c], _ => simp [Lib.hasPrefix, Lib.bytesOf, List.isPrefixOf]
    | [a, b, c, d], _ => simp [Lib.hasPrefix, Lib.bytesOf, List.isPrefixOf]
    | a :: b :: c :: d :: e :: r, h => exact absurd (by simp) h
theorem head_row {w : World} (h : Ok w) : ∃ w1 g, w.heap.size = g ∧ (convert 22 22 (.slice (some ⟨g, 0, none⟩) 5 5)).run Tryd.prog (w.alloc (.cells #[.int .u8 80, .int .u8 82, .int .u8 67, .int .u8 76, .int .u8 1] 5)) = .ok (.slice (some ⟨g, 0, none⟩) 5 5) w1 ∧ Fr w w1 ∧ g < w1.heap.size ∧ w1.heap[g]? = some (.cells #[.int .u8 80, .int .u8 82, .int .u8 67, .int .u8 76, .int .u8 1] 5 (5, 6)) :=
  ⟨_, _, rfl, Lib.run_convert_bytes_const (P := Tryd.prog) w 22 5 #[.int .u8 80, .int .u8 82, .int .u8 67, .int .u8 76, .int .u8 1] 5 5 Tryd.underlying22 Tryd.underlying5, (Fr.refl h).alloc _, by simp, heap_alloc_new w _⟩
theorem fr_of_grown {w w' : World} (h : Ok w) (q : w.grownBy w' none) : Fr w w' := Fr.of h ⟨q.os, q.tape, q.output, q.size, fun k hk => q.block k hk (by simp)⟩

set_option maxHeartbeats 12800000 in
set_option maxRecDepth 100000 in
theorem pread_no (A : Option Addr) (c : Nat) (L : List Int) (w : World) (hw : Ok w) (hA : BytesAt w A L) (hb : bytesOk L) (hc : L.length ≤ c) (hL : L.length ≤ 1073741824) (hh : headB L = false) :
    Calls Tryd.prog 15 #[.slice A L.length c] w fun e w' => ReadOut w ([], 190) e w' := by
  have hmf : ∀ (fn : Fn) (first cap : Array Value) (w : World), (Instr.makeFunc fn first cap).run Tryd.prog w = .ok (.func fn first cap) w := fun _ _ _ _ => rfl
  obtain ⟨w2, g2, hg2, hw2, f2, hz2, H2⟩ := boxedN hw #[.slice none 0 0] 26
  obtain ⟨w3, g3, hg3, hw3, f3, hz3, HE⟩ := boxedN f2.ok #[.int .i64 0] 29
  obtain ⟨w4, g4, hg4, hkc, f4, hz4, H4⟩ := head_row f3.ok
  have s2 := f2.size
  have s3 := f3.size
  have h23 : g2 ≠ g3 := by omega
  have f := f2.trans (f3.trans f4)
  replace H2 := f4.heap (f3.heap H2)
  replace HE := f4.heap HE
  have hB2 : w.heap.size ≤ g2 := by omega
  have hB3 : w.heap.size ≤ g3 := by omega
  have hp := Tryd.bytes_HasPrefix_all A (some ⟨g4, 0, none⟩) L.length c 5 5 L [80, 82, 67, 76, 1] w4 rfl rfl hc (bytesIn_of (hA.fr f)) (fun _ => ⟨g4, 0, rfl, fun i hi => by
    rw [Nat.zero_add]
    obtain ⟨k0, k1, k2, k3, k4⟩ := blk5 H4
    rcases (by omega : i = 0 ∨ i = 1 ∨ i = 2 ∨ i = 3 ∨ i = 4) with rfl | rfl | rfl | rfl | rfl
    · exact k0
    · exact k1
    · exact k2
    · exact k3
    · exact k4⟩)
  rw [head_prefix hb, hh] at hp
  have HPf := Lib.hid hp
  have i2 := blk1 H2
  have z2 := unfroz H2 0
  have j2 := idemC H2 i2
  have i3 := blk1 HE
  have z3 := unfroz HE 0
  obtain ⟨w6, hw6, H6, q6⟩ := set_grown HE 0 (.int .i64 190)
  simp only [List.setIfInBounds_toArray, List.set_cons_zero, List.set_cons_succ] at H6
  have HF := Lib.hid (And.intro (row_own f hw q6 hB3) (And.intro (grown_blk' q6 H2 (by simpa using h23)) H6))
  clear hA hb hc H4 f2 f3 f4 s2 s3 hz2 hz3 hz4 hp hh f q6 H6 H2 HE
  go_enter_defers Tryd.func15, Tryd.ntmps15
  go_wp2_with (go_at_call 35; refine HPf.out.mono ?_; rintro e wx ⟨rfl, rfl⟩)
  have hT : ∀ T ds, T[2]? = some (.pointer (some ⟨g2, 0, none⟩)) → T[3]? = some (.pointer (some ⟨g3, 0, none⟩)) → ds = [{ target := .fn (.func 34) #[.pointer (some ⟨g2, 0, none⟩), .pointer (some ⟨g3, 0, none⟩)], args := #[] }] → Leaves Tryd.prog Tryd.f15 T (fun e w' => ReadOut w ([], 190) e w') ds .returning w6 := fun T ds h1 h2 hds => by
    subst hds
    exact door_ok T g2 g3 w w6 (.slice none 0 0) 190 [] HF.out.1 (TreeAt.nil _ _) h1 h2 HF.out.2.1 HF.out.2.2
  exact hT _ _ rfl rfl rfl

theorem readX_tail {crc : List Int → Int} {L : List Int} (hh : headB L = true) : readX crc L = endX crc L (treeR L (numX L 2 0 4095 (.ok 5)) (numX L 8 0 18446744073709551615 (numX L 2 0 4095 (.ok 5)).2)).1 (treeR L (numX L 2 0 4095 (.ok 5)) (numX L 8 0 18446744073709551615 (numX L 2 0 4095 (.ok 5)).2)).2 := by
  unfold readX; rw [if_pos hh]
theorem endX_err {crc : List Int → Int} {L : List Int} {t : List Lf} {o : Er} {e : Int} (h : (takeX L 4 (takeX L 1 o).2).2 = .error e) : endX crc L t o = ([], e) := by
  rw [endX_E, h]; rfl
set_option maxHeartbeats 12800000 in
set_option maxRecDepth 100000 in
theorem pread_yes (gb ob c : Nat) (L : List Int) (w : World) (hw : Ok w) (hA : BytesAt w (some ⟨gb, ob, none⟩) L) (hgl : gb < w.heap.size) (hb : bytesOk L) (hc : L.length ≤ c) (hL : L.length ≤ 1073741824) (hg : 4 ≤ w.heap.size) (hh : headB L = true) :
    Calls Tryd.prog 15 #[.slice (some ⟨gb, ob, none⟩) L.length c] w fun e w' => ReadOut w (readX crcI L) e w' := by
  have hmf : ∀ (fn : Fn) (first cap : Array Value) (w : World), (Instr.makeFunc fn first cap).run Tryd.prog w = .ok (.func fn first cap) w := fun _ _ _ _ => rfl
  have h5 : 5 ≤ L.length := by
    by_cases h : L.length < 5
    · rw [headB_len h] at hh; cases hh
    · omega
  have htl := readX_tail (crc := crcI) hh
  obtain ⟨TR, hTR⟩ : ∃ p, treeR L (numX L 2 0 4095 (.ok 5)) (numX L 8 0 18446744073709551615 (numX L 2 0 4095 (.ok 5)).2) = p := ⟨_, rfl⟩
  rw [hTR] at htl
  obtain ⟨PP, hPP⟩ : ∃ P, readX crcI L = P := ⟨_, rfl⟩
  rw [hPP] at htl ⊢
  obtain ⟨w2, g2, hg2, hw2, f2, hz2, H2⟩ := boxedN hw #[.slice none 0 0] 26
  obtain ⟨w3, g3, hg3, hw3, f3, hz3, HE⟩ := boxedN f2.ok #[.int .i64 0] 29
  obtain ⟨w4, g4, hg4, hkc, f4, hz4, H4⟩ := head_row f3.ok
  obtain ⟨w5, g5, hg5, hw5, f5, hz5, H5⟩ := boxedN f4.ok #[.slice (some ⟨gb, ob, none⟩) L.length c, .int .i64 5] 67
  have s2 := f2.size
  have s3 := f3.size
  have s4 := f4.size
  have h23 : g2 < g3 := by omega
  have n25 : some g2 ≠ some g5 := by simp; omega
  have nE5 : some g3 ≠ some g5 := by simp; omega
  have n2E : some g2 ≠ some g3 := by simp; omega
  have f := f2.trans (f3.trans (f4.trans f5))
  have sf5 := f.size
  replace H2 := f5.heap (f4.heap (f3.heap H2))
  replace HE := f5.heap (f4.heap HE)
  have HR : PB w5 g5 (some ⟨gb, ob, none⟩) c L 5 := H5
  have hB2 : w.heap.size ≤ g2 := by omega
  have hB3 : w.heap.size ≤ g3 := by omega
  have hB5 : w.heap.size ≤ g5 := by omega
  have hgb : gb ≠ g5 := by omega
  have hg5n : 4 ≤ g5 := by omega
  have hp := Tryd.bytes_HasPrefix_all (some ⟨gb, ob, none⟩) (some ⟨g4, 0, none⟩) L.length c 5 5 L [80, 82, 67, 76, 1] w4 rfl rfl hc (bytesIn_of (hA.fr (f2.trans (f3.trans f4)))) (fun _ => ⟨g4, 0, rfl, fun i hi => by
    rw [Nat.zero_add]
    obtain ⟨k0, k1, k2, k3, k4⟩ := blk5 H4
    rcases (by omega : i = 0 ∨ i = 1 ∨ i = 2 ∨ i = 3 ∨ i = 4) with rfl | rfl | rfl | rfl | rfl
    · exact k0
    · exact k1
    · exact k2
    · exact k3
    · exact k4⟩)
  rw [head_prefix hb, hh] at hp
  have HPf := Lib.hid hp
  have HY := Lib.hid htl
  have HBy := Lib.hid hb
  have hTr := Lib.hid (fun (X : Int → Prop) hx => ptree_any X g5 gb ob c L 5 w5 f.ok HR h5 (hA.fr f) hgb hb hc hL hg5n hx)
  rw [hTR] at hTr
  have hTk := Lib.hid (fun (X : Int → Prop) (W : World) (fW : Fr w W) i HR hi k h1 hx => take_or X g5 gb ob c L i k W fW.ok HR hi (hA.fr fW) hgb h1 hc hL hg5n hx)
  have hAf := Lib.hid (fun (W : World) (fW : Fr w W) => hA.fr fW)
  have hDie : Hid (∀ T W x v0 c1, PP = ([], x) → Fr w W → T[2]? = some (.pointer (some ⟨g2, 0, none⟩)) → T[3]? = some (.pointer (some ⟨g3, 0, none⟩)) → W.heap[g2]? = some (.cells #[v0] 26 (0, 0)) → W.heap[g3]? = some (.cells #[c1] 29 (0, 0)) →
      Leaves Tryd.prog Tryd.f15 T (fun e w' => ReadOut w PP e w') [{ target := .fn (.func 34) #[.pointer (some ⟨g2, 0, none⟩), .pointer (some ⟨g3, 0, none⟩)], args := #[] }] (.panicking [{ v := .iface 63 (.agg #[.int .i64 x]), recovered := false }]) W) :=
    Lib.hid (fun T W x v0 c1 hP f h2 h3 h4 h5 => by subst hP; exact door_bad x T g2 g3 h23 w W hw f hB2 h2 h3 v0 c1 h4 h5)
  have hEnd : Hid (∀ T W v x lfs ds, PP = (lfs, x) → Fr w W → TreeAt W w.heap.size v lfs → T[2]? = some (.pointer (some ⟨g2, 0, none⟩)) → T[3]? = some (.pointer (some ⟨g3, 0, none⟩)) → W.heap[g2]? = some (.cells #[v] 26 (0, 0)) → W.heap[g3]? = some (.cells #[.int .i64 x] 29 (0, 0)) → ds = [{ target := .fn (.func 34) #[.pointer (some ⟨g2, 0, none⟩), .pointer (some ⟨g3, 0, none⟩)], args := #[] }] →
      Leaves Tryd.prog Tryd.f15 T (fun e w' => ReadOut w PP e w') ds .returning W) :=
    Lib.hid (fun T W v x lfs ds hP f hv h2 h3 h4 h5 hds => by subst hP hds; exact door_ok T g2 g3 w W v x lfs f hv h2 h3 h4 h5)
  have hX1 : Hid (∀ e, (takeX L 1 TR.2).2 = .error e → PP = ([], e)) := Lib.hid (fun e h => by rw [htl]; exact endX_err (by rw [h]; rfl))
  have i2 := blk1 H2
  have z2 := unfroz H2 0
  clear hA hb H4 H5 f2 f3 f4 f5 s2 s3 s4 hz2 hz3 hz4 hz5 hp hh htl hTR hPP
  go_enter_defers Tryd.func15, Tryd.ntmps15
  go_upto_if 32 with (first
    | (go_at_call 35; refine HPf.out.mono ?_; rintro e wx ⟨rfl, rfl⟩)
    | (go_at_call 36; go_loud (have ct := hTr.out (fun e => PP = ([], e)) hX1.out); refine ct.mono ?_; clear ct; rintro e wt ⟨q, ⟨cc, hcc, he⟩ | ⟨v, j, rfl, hT, hz, HRa, hj⟩⟩ <;> replace f := row_own f hw q hB5 <;> replace H2 := grown_blk' q H2 n25 <;> replace HE := grown_blk' q HE nE5 <;> first
      | (unfold gaveUp at he; subst he)
      | (clear i2 z2 q HR; go_loud (obtain ⟨a, tv, d, rfl, htv, HO, HLO⟩ := hT); have HR := HRa; clear HRa; have i2 := blk1 H2; have z2 := unfroz H2 0; go_loud (obtain ⟨wu, hwu, HM, q⟩ := set_grown H2 0 (.slice a tv.length d); simp only [List.setIfInBounds_toArray, List.set_cons_zero] at HM; have HO2 := Lib.hid (own_grown HO q H2 (by decide)); have HLO2 := Lib.hid (HLO.cells q H2 (by decide)); replace f := row_own f hw q hB2; replace HE := grown_blk' q HE n2E.symm; replace HR := PB.grown HR q n25.symm; clear q H2 HO HLO; have H2 := HM; clear HM); have HTV := Lib.hid htv; have HZ := Lib.hid hz; clear htv hz; (obtain ⟨r0, r1⟩ := blk2 HR)))
    | (go_at_call 37; go_loud (have ct := hTk.out (fun e => PP = ([], e)) _ f j HR hj 4 (by omega) (fun e h => by rw [HY.out]; exact endX_err (by rw [HZ.out]; exact h))); refine ct.mono ?_; clear ct; rintro e wt2 ⟨q, ⟨cc, hcc, he⟩ | ⟨sb, o9, d9, hE4, rfl, hd9, hs4, hB9, HRa, hj4⟩⟩ <;> replace f := row_own f hw q hB5 <;> replace H2 := grown_blk' q H2 n25 <;> replace HE := grown_blk' q HE nE5 <;> first
      | (unfold gaveUp at he; subst he)
      | (clear hwu i2 z2 r0 r1; go_loud (replace HO2 := Lib.hid (own_grown HO2.out q HR (by decide)); replace HLO2 := Lib.hid (HLO2.out.cells q HR (by decide))); clear q HR; have HR := HRa; clear HRa; have HE4 := Lib.hid hE4; have hsb := takeX_ok HBy.out 4 (.ok j); rw [hE4] at hsb; have HSB := Lib.hid hsb.1; have hs4' : sb.length ≤ 4 := (by omega); clear hE4 hs4 hsb; have s0 : (0 : Int) ≤ (j : Int) := (by omega); have s1 : (j : Int) ≤ (c : Int) := (by omega); (obtain ⟨cr, hcr⟩ : ∃ x, crcI (L.take j) = x := ⟨_, rfl⟩); have hcrr := crcI_rg (HBy.out.take j); rw [hcr] at hcrr; have HCR := Lib.hid hcr; have hlen : (L.take j).length = j := (by rw [List.length_take]; omega); go_loud (have hsm := sum_any (some ⟨gb, ob, none⟩) c (L.take j) (HBy.out.take j) (by omega) (by omega) wt2 f.ok (by have := (hAf.out _ f).sub 0 j; simpa using this)); rw [hlen, hcr] at hsm; have HSM := Lib.hid hsm; go_loud (have hpt := put_any w.heap.size none 0 [] cr 4 hcrr.1 (by omega) (by omega) wt2 f.ok (OwnB.nil _ _) f.size (by simp)); have HPT := Lib.hid hpt; clear hsm hpt hcr hlen; have wcr : IntKind.u64.wrap cr = cr := u64_in ⟨by omega, by omega⟩))
    | (go_at_call 40; refine HSM.out.mono ?_; rintro e wx ⟨rfl, rfl⟩)
    | (go_at_call 39; go_loud (refine HPT.out.mono ?_); rintro e wp ⟨pa, pd, rfl, hOp, q, _⟩; have q2 := fr_of_grown f.ok q; rw [List.nil_append] at hOp; have hcv1 := conv_str wp (hB9.fr q2) (by omega) d9; have hcv2 := conv_str wp hOp.at.1 (by rw [le_length]; omega) pd; have f9 := f.trans q2; have H29 := q2.heap H2; have HE9 := q2.heap HE; have HR9 := HR.fr q2; have HF9 := Lib.hid (And.intro (own_fr HO2.out q2) (HLO2.out.fr q2)); (obtain ⟨bq, hbq⟩ : ∃ b, ((strOfNums sb).toList == (strOfNums (le cr 4)).toList) = b := ⟨_, rfl⟩); clear q q2 hOp hB9)
    | (go_at_call 38; go_loud (refine (Tryd.bytes_Equal_strs _ _ _ _ _ hcv1 hcv2).mono ?_); rintro e wq ⟨rfl, rfl⟩))
  all_goals try (exact hDie.out _ _ cc _ _ hcc f rfl rfl H2 HE)
  have hE : PP = if bq = true then (if j + 4 < L.length then ([], 190) else (TR.1, 0)) else ([], 192) := by
    have hx := HY.out
    rw [endX_E, HZ.out, HE4.out] at hx
    dsimp only [endE] at hx
    rw [show j + 4 - 4 = j by omega, HCR.out] at hx
    rw [hx, ← hbq]
    have hs := strOfNums_inj HSB.out (fun x hx => le_mem cr 4 x hx)
    by_cases h : sb = le cr 4
    · have hb : ((strOfNums sb).toList == (strOfNums (le cr 4)).toList) = true := by rw [h]; exact beq_self_eq_true _
      rw [hb, if_pos h]; rfl
    · have hb : ((strOfNums sb).toList == (strOfNums (le cr 4)).toList) = false := beq_eq_false_iff_ne.2 (fun k => h (hs (bs_ext (by rw [← toL, ← toL]; exact k))))
      rw [hb, if_neg h]; rfl
  have HEE := Lib.hid hE
  obtain ⟨r0, r1⟩ := blk2 HR9
  have i2 := blk1 H29
  have z2 := unfroz H29 0
  have i3 := blk1 HE9
  have z3 := unfroz HE9 0
  obtain ⟨wA, hwA, HA, qA⟩ := set_grown H29 0 (.slice none 0 0)
  simp only [List.setIfInBounds_toArray, List.set_cons_zero] at HA
  have fA := row_own f9 hw qA hB2
  have HEA := grown_blk' qA HE9 n2E.symm
  have i3A := blk1 HEA
  have z3A := unfroz HEA 0
  obtain ⟨wB, hwB, HB, qB⟩ := set_grown HEA 0 (.int .i64 192)
  obtain ⟨wC, hwC, HC, qC⟩ := set_grown HEA 0 (.int .i64 190)
  simp only [List.setIfInBounds_toArray, List.set_cons_zero] at HB HC
  have HFB := Lib.hid (And.intro (row_own fA hw qB hB3) (And.intro (grown_blk' qB HA n2E) HB))
  have HFC := Lib.hid (And.intro (row_own fA hw qC hB3) (And.intro (grown_blk' qC HA n2E) HC))
  have j2 := idemC H29 i2
  have j3 := idemC HE9 i3
  have HF0 := Lib.hid (And.intro f9 (And.intro H29 HE9))
  clear hE HA qA fA HEA HB qB HC qC H2 HE HR HR9 H29 HE9 hcv1 hcv2 f f9
  cases bq with
  | false =>
    go_wp2_with fail
    exact hEnd.out _ _ (.slice none 0 0) 192 [] _ (by rw [HEE.out]; rfl) HFB.out.1 (TreeAt.nil _ _) rfl rfl HFB.out.2.1 HFB.out.2.2 rfl
  | true =>
    by_cases hlt : j + 4 < L.length
    · have d7 : (j : Int) + 4 < (L.length : Int) := by omega
      have HLT := Lib.hid hlt
      clear hlt
      go_wp2_with fail
      exact hEnd.out _ _ (.slice none 0 0) 190 [] _ (by rw [HEE.out, if_pos trivial, if_pos HLT.out]) HFC.out.1 (TreeAt.nil _ _) rfl rfl HFC.out.2.1 HFC.out.2.2 rfl
    · have d7 : (L.length : Int) ≤ (j : Int) + 4 := by omega
      have HLT := Lib.hid hlt
      clear hlt
      go_wp2_with fail
      exact hEnd.out _ _ (.slice a tv.length d) 0 TR.1 _ (by rw [HEE.out, if_pos trivial, if_neg HLT.out]) HF0.out.1 ⟨a, tv, d, rfl, HTV.out, own_low HF9.out.1 (by omega), HF9.out.2.low (by omega)⟩ rfl rfl HF0.out.2.1 HF0.out.2.2 rfl
theorem pread_any (A : Option Addr) (c : Nat) (L : List Int) (w : World) (hw : Ok w) (hA : BytesAt w A L) (hb : bytesOk L) (hc : L.length ≤ c) (hL : L.length ≤ 1073741824) (hg : 4 ≤ w.heap.size) :
    Calls Tryd.prog 15 #[.slice A L.length c] w fun e w' => ReadOut w (readX crcI L) e w' := by
  cases hh : headB L with
  | false =>
    have : readX crcI L = ([], 190) := by unfold readX; rw [hh]; rfl
    rw [this]
    exact pread_no A c L w hw hA hb hc hL hh
  | true =>
    have hA' := hA
    rcases hA with h | ⟨g, o, rfl, hlt, h⟩
    · subst h; simp [headB] at hh
    · exact pread_yes g o c L w hw hA' hlt hb hc hL hg hh
end Go.Proofs.YtlnaeppbhjmocaaDoor
set_option linter.unusedSimpArgs false
set_option linter.unusedVariables false
namespace Go.Proofs.YtlnaeppbhjmocaaDoor
open Go.RowKit Go.Proofs Go.Proofs.YtlnaeppbhjmocaaDoorW.PrintWords Go.Proofs.YtlnaeppbhjmocaaDoorW.PrintMore

theorem same_true {w : World} (hw : Ok w) {A A' : Option Addr} {c c' : Nat} {xs : List Int} (h : BytesAt w A xs) (h' : BytesAt w A' xs) (hc : xs.length ≤ c) (hc' : xs.length ≤ c') (hL : xs.length ≤ 1099511627776) :
    Calls Tryd.prog 22 #[.slice A xs.length c, .slice A' xs.length c'] w fun e w' => e = .returned (.bool true) ∧ Fr w w' := by
  refine (Psame.shalelaw18_same.calls A c xs A' c' xs true w (h.toC (by omega)) hc (h'.toC (by omega)) hc' ?_).mono fun e w' ⟨he, hb⟩ => ⟨he, Fr.of hw hb.below⟩
  unfold Psame.shalelaw18_same.f
  simp
theorem no_any (x : Int) (w : World) (hw : Ok w) : Calls Tryd.prog 16 #[.int .i64 x] w fun e w' => e = .returned (.int .i64 x) ∧ Fr w w' :=
  (Pno.shalelaw18_no.calls x x w rfl).mono fun e w' ⟨he, hb⟩ => ⟨he, Fr.of hw hb.below⟩
/-! ### Two trees of the same leaves -/
def toS (p : Lf × Value) : Palike.S45 := ⟨p.1.path, p.1.ty, p.1.mode, p.1.stamp, p.1.data, p.1.tgt⟩
def toS1 (l : Lf) : Palike.S45 := ⟨l.path, l.ty, l.mode, l.stamp, l.data, l.tgt⟩
theorem tree_C {w : World} {B : Nat} {a : Option Addr} {c : Nat} {tv : List (Lf × Value)} (h : w.ownsRow B 45 6 (.slice a tv.length c) tv.length (lflat tv)) (hl : LO w B tv) (hn : tv.length ≤ 1099511627776) :
    Kd.C Palike.k45 w a (tv.map toS).length (tv.map toS) ∧ (tv.map toS).length ≤ c := by
  have hcap : tv.length ≤ c := own_cap h
  refine ⟨⟨rfl, by rw [List.length_map]; omega, fun h0 => ?_⟩, by rw [List.length_map]; exact hcap⟩
  rw [List.length_map] at h0
  obtain ⟨g, c', hv, _, _⟩ := World.ownsRow.form h h0
  injection hv with e1 e2 e3
  subst e1 e3
  have hR := own_Row (xs := []) (lcell_len tv) (by rw [List.append_nil]; exact h)
  refine ⟨_, rfl, fun j p hj => ?_⟩
  rw [List.getElem?_map, Option.map_eq_some_iff] at hj
  obtain ⟨q, hq, rfl⟩ := hj
  have hO := hl q (List.mem_of_getElem? hq)
  obtain ⟨da, dc, hdv⟩ := hO.form
  have hO2 := hO
  rw [hdv] at hO2
  obtain ⟨_, hdl, hdC⟩ := hO2.toC
  refine ⟨lcell q, rfl, ?_, fun i u hu => ?_⟩
  · have := Palike.k45_mk w (toS q) (A4 := da) (c4 := dc) hdl hdC
    unfold lcell
    rw [hdv]
    exact this
  · rcases hR with hR | ⟨g', o', e, _, hR⟩
    · have : tv = [] := by simpa using hR
      rw [this] at h0; simp at h0
    · injection e with e; injection e with e1 e2; subst e1 e2
      have hi : i < 6 := by
        have := (List.getElem?_eq_some_iff.1 hu).1
        have hl6 : (lcell q).length = 6 := rfl
        omega
      have := hR j (lcell q) (by rw [List.getElem?_map, hq]; rfl) i u hi hu
      have hsz : Palike.k45.sz = 6 := rfl
      rw [hsz, Lib.add_plain]
      rw [show 0 + (j * 6 + i) = 0 + j * 6 + i by omega]
      exact this
theorem leaf_same (x : Palike.S45) : Palike.shalelaw18_leaf.f x.f0 x.f1 x.f2 x.f3 x.f4 x.f5 x.f0 x.f1 x.f2 x.f3 x.f4 x.f5 = some true := by
  unfold Palike.shalelaw18_leaf.f
  simp [Palike.shalelaw18_same.f]
theorem alike_l0 (l : List Palike.S45) (hl : l.length ≤ 1099511627776) : ∀ (d i : Nat), i + d = l.length → Palike.shalelaw18_alike.l0 (d + 1) l l (i : Int) = some true := by
  intro d
  induction d with
  | zero =>
    intro i hi
    simp only [Palike.shalelaw18_alike.l0]
    rw [if_neg (by omega)]
  | succ d ih =>
    intro i hi
    have e3 : wrap64 ((i : Int) + 1) = ((i + 1 : Nat) : Int) := by rw [wr64 ⟨by omega, by omega⟩]; omega
    obtain ⟨D, hD⟩ : ∃ D, d + 1 = D := ⟨_, rfl⟩
    rw [hD]
    simp only [Palike.shalelaw18_alike.l0]
    rw [if_pos (by omega), if_pos (by omega), if_pos (by omega), leaf_same, Option.bind_some, if_pos rfl, e3, ← hD]
    exact ih (i + 1) (by omega)
theorem alike_f (l : List Palike.S45) (hl : l.length ≤ 1099511627776) : Palike.shalelaw18_alike.f (l.length + 1) l l = some true := by
  unfold Palike.shalelaw18_alike.f
  rw [if_pos rfl]
  exact alike_l0 l hl l.length 0 (by omega)
end Go.Proofs.YtlnaeppbhjmocaaDoor
set_option linter.unusedSimpArgs false
set_option linter.unusedVariables false
namespace Go.Proofs.YtlnaeppbhjmocaaDoor
open Go.RowKit Go.Proofs Go.Proofs.YtlnaeppbhjmocaaDoorW.PrintWords Go.Proofs.YtlnaeppbhjmocaaDoorW.PrintLast Go.Proofs.YtlnaeppbhjmocaaDoorW.PrintMore

/-- where the next hole begins and ends, from a place i on at which 'run' bytes 0 have come -/
def nhL : List Int → Nat → Nat → Nat × Nat
  | [], run, i => if 16 ≤ run then (i - run, i) else (i, i)
  | x :: r, run, i => if x = 0 then nhL r (run + 1) (i + 1) else if 16 ≤ run then (i - run, i) else nhL r 0 (i + 1)
theorem nhL_bounds (l : List Int) : ∀ (run i : Nat), run ≤ i → i - run ≤ (nhL l run i).1 ∧ (nhL l run i).1 ≤ (nhL l run i).2 ∧ i ≤ (nhL l run i).2 ∧ (nhL l run i).2 ≤ i + l.length ∧ (run < 16 → l ≠ [] → i < (nhL l run i).2) := by
  induction l with
  | nil =>
    intro run i hr
    rw [nhL]
    split
    · refine ⟨Nat.le_refl _, by show i - run ≤ i; omega, Nat.le_refl _, by simp, fun h => by omega⟩
    · refine ⟨by show i - run ≤ i; omega, Nat.le_refl _, Nat.le_refl _, by simp, fun _ h => absurd rfl h⟩
  | cons x r ih =>
    intro run i hr
    rw [nhL, List.length_cons]
    split
    · obtain ⟨h1, h2, h3, h4, _⟩ := ih (run + 1) (i + 1) (by omega)
      exact ⟨by omega, h2, by omega, by omega, fun _ _ => by omega⟩
    · split
      · refine ⟨Nat.le_refl _, by show i - run ≤ i; omega, Nat.le_refl _, by show i ≤ _; omega, fun h => by omega⟩
      · obtain ⟨h1, h2, h3, h4, _⟩ := ih 0 (i + 1) (by omega)
        exact ⟨by omega, h2, by omega, by omega, fun _ _ => by omega⟩
theorem nh_val (l : List Int) (hl : l.length ≤ 1073741824) : ∀ (d i run : Nat), i + d = l.length → run ≤ i → PnextHole.parcel_nextHole.l0 (d + 1) l (run : Int) (i : Int) = some (((nhL (l.drop i) run i).1 : Int), ((nhL (l.drop i) run i).2 : Int)) := by
  intro d
  induction d with
  | zero =>
    intro i run hi hr
    have hd : l.drop i = [] := List.drop_eq_nil_of_le (by omega)
    rw [hd]
    simp only [PnextHole.parcel_nextHole.l0, nhL]
    rw [if_neg (by omega)]
    by_cases h16 : 16 ≤ run
    · rw [if_pos (by omega), if_pos h16, wr64 ⟨by omega, by omega⟩]
      congr 2 <;> omega
    · rw [if_neg (by omega), if_neg h16]
      congr 2 <;> omega
  | succ d ih =>
    intro i run hi hr
    have hlt : i < l.length := by omega
    have hd : l.drop i = l[i] :: l.drop (i + 1) := List.drop_eq_getElem_cons hlt
    have hrd : rd l (i : Int) = l[i] := by unfold rd; rw [Int.toNat_natCast]; simp [List.getD, hlt]
    have e3 : wrap64 ((i : Int) + 1) = ((i + 1 : Nat) : Int) := by rw [wr64 ⟨by omega, by omega⟩]; omega
    have e4 : wrap64 ((run : Int) + 1) = ((run + 1 : Nat) : Int) := by rw [wr64 ⟨by omega, by omega⟩]; omega
    obtain ⟨D, hD⟩ : ∃ D, d + 1 = D := ⟨_, rfl⟩
    rw [hD]
    simp only [PnextHole.parcel_nextHole.l0]
    rw [if_pos (by omega), if_pos (by omega), hrd, e3, e4, hd, ← hD, nhL]
    by_cases h0 : l[i] = 0
    · rw [if_pos h0, if_pos h0]
      exact ih (i + 1) (run + 1) (by omega) (by omega)
    · rw [if_neg h0, if_neg h0]
      by_cases h16 : 16 ≤ run
      · rw [if_pos (by omega), if_pos h16, wr64 ⟨by omega, by omega⟩]
        congr 2
        omega
      · rw [if_neg (by omega), if_neg h16]
        exact ih (i + 1) 0 (by omega) (by omega)
theorem nextHole_val (A : Option Addr) (c : Nat) (L : List Int) (i : Nat) (hi : i ≤ L.length) (hc : L.length ≤ c) (hL : L.length ≤ 1073741824) (w : World) (hw : Ok w) (hA : BytesAt w A L) :
    Calls Tryd.prog 79 #[.slice A L.length c, .int .i64 i] w fun e w' => e = .returned (.tuple #[.int .i64 (nhL (L.drop i) 0 i).1, .int .i64 (nhL (L.drop i) 0 i).2]) ∧ Fr w w' :=
  (PnextHole.parcel_nextHole.calls (L.length - i + 1) A c L i _ _ w (hA.toC (by omega)) hc (nh_val L hL (L.length - i) i 0 (by omega) (by omega))).mono fun e w' ⟨he, hd⟩ => ⟨he, Fr.of hw hd.below⟩

/-- the stretches from a place on: their kind (1 bytes, 0 a hole), place, size -/
def stretS (L : List Int) : Nat → Nat → List (Nat × Nat × Nat)
  | 0, _ => []
  | k + 1, i => if i < L.length then
      (if i < (nhL (L.drop i) 0 i).1 then [(1, i, (nhL (L.drop i) 0 i).1 - i)] else []) ++
      ((if (nhL (L.drop i) 0 i).1 < (nhL (L.drop i) 0 i).2 then [(0, (nhL (L.drop i) 0 i).1, (nhL (L.drop i) 0 i).2 - (nhL (L.drop i) 0 i).1)] else []) ++ stretS L k (nhL (L.drop i) 0 i).2) else []
def stretX (L : List Int) : List (Nat × Nat × Nat) := stretS L L.length 0
theorem stretS_more (L : List Int) : ∀ (k m i : Nat), L.length ≤ i + k → L.length ≤ i + m → stretS L k i = stretS L m i := by
  intro k
  induction k with
  | zero =>
    intro m i h1 h2
    cases m with
    | zero => rfl
    | succ m => rw [stretS, stretS, if_neg (by omega)]
  | succ k ih =>
    intro m i h1 h2
    cases m with
    | zero => rw [stretS, stretS, if_neg (by omega)]
    | succ m =>
      rw [stretS, stretS]
      by_cases hi : i < L.length
      · have hb := (nhL_bounds (L.drop i) 0 i (by omega)).2.2.2.2 (by omega) (fun e => by have := congrArg List.length e; simp at this; omega)
        rw [if_pos hi, if_pos hi, ih m _ (by omega) (by omega)]
      · rw [if_neg hi, if_neg hi]
end Go.Proofs.YtlnaeppbhjmocaaDoor
