/- node.Read by its contract: readNL, too. -/
import Derived.Test.YtefkklgelmbaiaaDoorZ4
import Derived.Laws.EntriesVeiled
import Derived.Deep.DeepCutAuto
set_option linter.unusedSimpArgs false
set_option linter.unusedVariables false
namespace Go.Proofs.YtefkklgelmbaiaaDoor
open Go.RowKit Go.Proofs Go.Proofs.YtefkklgelmbaiaaDoorW.PrintWords Go.Proofs.YtefkklgelmbaiaaDoorW.PrintMore

theorem read08_any (A : Option Addr) (c : Nat) (M : List Int) (hM : bytesOk M) (hc : M.length ≤ c) (hL : M.length ≤ 1073741824) (w : World) (hw : Ok w) (hA : BytesAt w A M) :
    Calls Tryd.prog 40 #[.slice A M.length c] w fun e w' => e = .returned (.tuple #[.agg #[.int .i64 (readNL M).1.ty, .int .i64 (readNL M).1.par, .string (readNL M).1.name, .int .i64 (readNL M).1.size, .int .i64 (readNL M).1.mode, .int .u64 (readNL M).1.stamp, .int .i64 (readNL M).1.shadow, .string (readNL M).1.tgt], .int .i64 (readNL M).2]) ∧ Fr w w' := by
  by_cases hs : M.length < 24 ∨ M.length < 25 + (M.getD 23 0).toNat ∨ M.length ≠ 25 + (M.getD 23 0).toNat + (M.getD (24 + (M.getD 23 0).toNat) 0).toNat
  · have hr : readNL M = (Nod.zero, 80) := by
      unfold readNL
      by_cases h1 : M.length < 24
      · rw [if_pos h1]
      · rw [if_neg h1]
        by_cases h2 : M.length < 25 + (M.getD 23 0).toNat
        · rw [if_pos h2]
        · rw [if_neg h2, if_pos (by rcases hs with h | h | h; exact absurd h h1; exact absurd h h2; exact h)]
    rw [hr]
    exact read08_short A c M hM hc hL w hw hA hs
  · have h1 : ¬ M.length < 24 := fun h => hs (.inl h)
    have h2 : ¬ M.length < 25 + (M.getD 23 0).toNat := fun h => hs (.inr (.inl h))
    have h3 : M.length = 25 + (M.getD 23 0).toNat + (M.getD (24 + (M.getD 23 0).toNat) 0).toNat := by
      by_cases h : M.length = 25 + (M.getD 23 0).toNat + (M.getD (24 + (M.getD 23 0).toNat) 0).toNat
      · exact h
      · exact absurd (.inr (.inr h)) hs
    have hr : readNL M = if checkL (nodeOf M (M.getD 23 0).toNat) = 0 then (nodeOf M (M.getD 23 0).toNat, 0) else (Nod.zero, checkL (nodeOf M (M.getD 23 0).toNat)) := by
      unfold readNL
      rw [if_neg h1, if_neg h2, if_neg (fun h => h h3)]
    have hk := (Int.toNat_of_nonneg (getD_byte hM 23).1).symm
    have hm := (Int.toNat_of_nonneg (getD_byte hM (24 + (M.getD 23 0).toNat)).1).symm
    refine (read08_good A c M hM hc hL w hw hA _ _ hk hm h3).mono ?_
    rintro e w' ⟨rfl, f⟩
    refine ⟨?_, f⟩
    rw [hr]
    by_cases hck : checkL (nodeOf M (M.getD 23 0).toNat) = 0
    · rw [if_pos hck, if_pos hck]
    · rw [if_neg hck, if_neg hck]; rfl
end Go.Proofs.YtefkklgelmbaiaaDoor
set_option linter.unusedSimpArgs false
set_option linter.unusedVariables false
namespace Go.Proofs.YtefkklgelmbaiaaDoor
open Go.RowKit Go.Proofs

/-- what the reader gives up with -/
def gaveUp : Ending := .panicked [{ v := .iface 72 (.agg #[]), recovered := false }]
theorem must_yes (w : World) : Calls Tryd.prog 29 #[.bool true] w fun e w' => e = .returned (.tuple #[]) ∧ w' = w := by
  go_enter Tryd.func29, Tryd.ntmps29
  go_wp2
  go_end0
  exact ⟨rfl, rfl⟩
theorem must_no (w : World) : Calls Tryd.prog 29 #[.bool false] w fun e w' => e = gaveUp ∧ w' = w := by
  go_enter Tryd.func29, Tryd.ntmps29
  go_wp2
  exact ⟨rfl, rfl, rfl⟩
def PB (w : World) (g : Nat) (A : Option Addr) (c : Nat) (L : List Int) (i : Nat) : Prop := w.heap[g]? = some (.cells #[.slice A L.length c, .int .i64 i] 76 (0, 0))

set_option maxHeartbeats 3200000 in
set_option maxRecDepth 100000 in
theorem num_go (g gb ob c : Nat) (L : List Int) (i size : Nat) (most : Int) (w : World) (hw : Ok w) (H : PB w g (some ⟨gb, ob, none⟩) c L i) (hi : i ≤ L.length) (hA : BytesAt w (some ⟨gb, ob, none⟩) L) (hgb : gb ≠ g) (hb : bytesOk L) (hs : 1 ≤ size ∧ size ≤ 8) (hc : L.length ≤ c) (hL : L.length ≤ 1073741824) (hg : 7 ≤ g) :
    Calls Tryd.prog 26 #[.pointer (some ⟨g, 0, none⟩), .int .i64 size, .int .u64 most] w fun e w' => w.grownBy w' (some g) ∧ match numP L size most i with
      | some p => e = .returned (.int .u64 p.1) ∧ PB w' g (some ⟨gb, ob, none⟩) c L p.2
      | none => e = gaveUp := by
  unfold PB at *
  have f := Fr.refl hw
  obtain ⟨c0, c1⟩ := blk2 H
  by_cases hle : i + size ≤ L.length
  · obtain ⟨v, hv⟩ : ∃ v, leV ((L.drop i).take size) = v := ⟨_, rfl⟩
    have hnp : numP L size most i = if v ≤ most then some (v, i + size) else none := by
      unfold numP; rw [hv]
      by_cases h : v ≤ most
      · rw [if_pos h, if_pos ⟨hle, h⟩]
      · rw [if_neg h, if_neg (fun k => h k.2)]
    have HG := Lib.hid (fun W (f : Fr w W) => Get_yes (some ⟨gb, ob, none⟩) c L hb i size hs.1 hs.2 hle hc hL W f.ok (hA.fr f))
    rw [hv] at HG
    clear hv
    by_cases hm : v ≤ most
    · rw [if_pos hm] at hnp
      rw [hnp]
      have d1 : decide (v ≤ most) = true := decide_eq_true hm
      have w2 : IntKind.i64.wrap ((i : Int) + (size : Int)) = (i : Int) + (size : Int) := IntWalk.i64_in _ ⟨by omega, by omega⟩
      go_enter Tryd.func26, Tryd.ntmps26
      go_wp2
      have r_c0 := cell_regrown c0
      have r_c1 := cell_regrown c1
      refine wp_region_quiet_below (by kernel_rfl) (by kernel_rfl) ?_
      repeat (go_big_quiet_step (first | (go_at_call 42; exact qfr ((HG.out _ (frR2 f.ok _ _))))))
      refine wpQuiet_nil ?_
      intro wq hwq
      have q := Fr.regrown f.ok hwq
      clear hwq r_c0 r_c1
      replace c0 := q.cell c0
      replace c1 := q.cell c1
      replace H := q.heap H
      replace f := f.trans q
      clear q
      obtain ⟨c0, c1⟩ := blk2 H
      have z1 := unfroz H 1
      obtain ⟨wb, hwb, HB, gr⟩ := set_grown H 1 (.int .i64 ((i : Int) + (size : Int)))
      simp only [List.setIfInBounds_toArray, List.set_cons_zero, List.set_cons_succ] at HB
      go_wp2_with (go_at_call 29; refine (must_yes _).mono ?_; rintro e wx ⟨rfl, rfl⟩)
      go_ret
      exact ⟨grown_trans (fr_grown f _) gr, rfl, (by first | exact HB | (rw [Int.natCast_add]; exact HB))⟩
    · rw [if_neg hm] at hnp
      rw [hnp]
      have d1 : decide (v ≤ most) = false := decide_eq_false hm
      go_enter Tryd.func26, Tryd.ntmps26
      go_wp2
      have r_c0 := cell_regrown c0
      have r_c1 := cell_regrown c1
      refine wp_region_quiet_below (by kernel_rfl) (by kernel_rfl) ?_
      repeat (go_big_quiet_step (first | (go_at_call 42; exact qfr ((HG.out _ (frR2 f.ok _ _))))))
      refine wpQuiet_nil ?_
      intro wq hwq
      have q := Fr.regrown f.ok hwq
      clear hwq r_c0 r_c1
      replace c0 := q.cell c0
      replace c1 := q.cell c1
      replace H := q.heap H
      replace f := f.trans q
      clear q
      go_wp2_with (go_at_call 29; refine (must_no _).mono ?_; rintro e wx ⟨he, rfl⟩; unfold gaveUp at he; subst he)
      exact ⟨rfl, fr_grown f _, rfl⟩
  · have hnp : numP L size most i = none := by unfold numP; rw [if_neg (fun k => hle k.1)]
    rw [hnp]
    have HG := Lib.hid (fun W (f : Fr w W) => Get_no (some ⟨gb, ob, none⟩) c L i size hs.1 hs.2 (by omega) hi hc hL W f.ok (hA.fr f))
    go_enter Tryd.func26, Tryd.ntmps26
    go_wp2
    have r_c0 := cell_regrown c0
    have r_c1 := cell_regrown c1
    refine wp_region_quiet_below (by kernel_rfl) (by kernel_rfl) ?_
    repeat (go_big_quiet_step (first | (go_at_call 42; exact qfr ((HG.out _ (frR2 f.ok _ _))))))
    refine wpQuiet_nil ?_
    intro wq hwq
    have q := Fr.regrown f.ok hwq
    clear hwq r_c0 r_c1
    replace c0 := q.cell c0
    replace c1 := q.cell c1
    replace H := q.heap H
    replace f := f.trans q
    clear q
    go_wp2_with (go_at_call 29; refine (must_no _).mono ?_; rintro e wx ⟨he, rfl⟩; unfold gaveUp at he; subst he)
    exact ⟨rfl, fr_grown f _, rfl⟩
end Go.Proofs.YtefkklgelmbaiaaDoor
set_option linter.unusedSimpArgs false
set_option linter.unusedVariables false
namespace Go.Proofs.YtefkklgelmbaiaaDoor
open Go.RowKit Go.Proofs

theorem PB.fr {w w' : World} {g : Nat} {A : Option Addr} {c : Nat} {L : List Int} {i : Nat} (h : PB w g A c L i) (q : Fr w w') : PB w' g A c L i := q.heap h
theorem PB.grown {w w' : World} {g : Nat} {A : Option Addr} {c : Nat} {L : List Int} {i : Nat} {r : Option Nat} (h : PB w g A c L i) (q : w.grownBy w' r) (hne : some g ≠ r) : PB w' g A c L i := grown_blk' q h hne
set_option maxHeartbeats 3200000 in
set_option maxRecDepth 100000 in
theorem int_go (g gb ob c : Nat) (L : List Int) (i size : Nat) (most : Int) (w : World) (hw : Ok w) (H : PB w g (some ⟨gb, ob, none⟩) c L i) (hi : i ≤ L.length) (hA : BytesAt w (some ⟨gb, ob, none⟩) L) (hgb : gb ≠ g) (hb : bytesOk L) (hs : 1 ≤ size ∧ size ≤ 8) (hm : most ≤ 281474976710656) (hc : L.length ≤ c) (hL : L.length ≤ 1073741824) (hg : 7 ≤ g) :
    Calls Tryd.prog 27 #[.pointer (some ⟨g, 0, none⟩), .int .i64 size, .int .u64 most] w fun e w' => w.grownBy w' (some g) ∧ match numP L size most i with
      | some p => e = .returned (.int .i64 p.1) ∧ PB w' g (some ⟨gb, ob, none⟩) c L p.2
      | none => e = gaveUp := by
  have hN := Lib.hid (num_go g gb ob c L i size most w hw H hi hA hgb hb hs hc hL hg)
  cases hp : numP L size most i with
  | none =>
    rw [hp] at hN
    go_enter Tryd.func27, Tryd.ntmps27
    go_wp2_with (go_at_call 26; refine hN.out.mono ?_; rintro e wx ⟨gr, he⟩; (try dsimp only at he); unfold gaveUp at he; subst he)
    exact ⟨rfl, gr, rfl⟩
  | some p =>
    rw [hp] at hN
    obtain ⟨v, j⟩ := p
    obtain ⟨h1, h2, _, _⟩ := numP_le hb hp
    have wv : IntKind.i64.wrap v = v := IntWalk.i64_in _ ⟨by omega, by omega⟩
    go_enter Tryd.func27, Tryd.ntmps27
    go_wp2_with (go_at_call 26; refine hN.out.mono ?_; rintro e wx ⟨gr, he, HB⟩; (try dsimp only at he HB); subst he)
    go_ret
    exact ⟨gr, rfl, HB⟩

def placeP (L : List Int) (i : Nat) : Option ((Int × Int) × Nat) := (numP L 2 4095 i).bind fun p => (numP L 2 255 p.2).map fun q => ((p.1, q.1), q.2)
set_option maxHeartbeats 3200000 in
set_option maxRecDepth 100000 in
theorem place_go (g gb ob c : Nat) (L : List Int) (i : Nat) (w : World) (hw : Ok w) (H : PB w g (some ⟨gb, ob, none⟩) c L i) (hi : i ≤ L.length) (hA : BytesAt w (some ⟨gb, ob, none⟩) L) (hgb : gb ≠ g) (hb : bytesOk L) (hc : L.length ≤ c) (hL : L.length ≤ 1073741824) (hg : 7 ≤ g) :
    Calls Tryd.prog 45 #[.pointer (some ⟨g, 0, none⟩)] w fun e w' => w.grownBy w' (some g) ∧ match placeP L i with
      | some p => e = .returned (.agg #[.int .i64 p.1.1, .int .i64 p.1.2]) ∧ PB w' g (some ⟨gb, ob, none⟩) c L p.2
      | none => e = gaveUp := by
  obtain ⟨w1, g1, hg1, hw1, f1, hz1, H1⟩ := boxedN hw #[.int .i64 0, .int .i64 0] 50
  have hlt : g < w.heap.size := (Array.getElem?_eq_some_iff.1 H).1
  have hgg : g1 ≠ g := by omega
  have hN1 := Lib.hid (int_go g gb ob c L i 2 4095 w1 f1.ok (H.fr f1) hi (hA.fr f1) hgb hb (by omega) (by omega) hc hL hg)
  have gr := fr_grown f1 (some g)
  replace hA := hA.fr f1
  have hok1 := f1.ok
  clear f1
  cases hp : numP L 2 4095 i with
  | none =>
    have hpl : placeP L i = none := by unfold placeP; rw [hp]; rfl
    rw [hpl]
    rw [hp] at hN1
    go_enter Tryd.func45, Tryd.ntmps45
    go_wp2_with (go_at_call 27; refine hN1.out.mono ?_; rintro e wx ⟨q, he⟩; (try dsimp only at he); unfold gaveUp at he; subst he)
    exact ⟨rfl, grown_trans gr q, rfl⟩
  | some p =>
    obtain ⟨b, j⟩ := p
    obtain ⟨_, _, _, hj⟩ := numP_le hb hp
    rw [hp] at hN1
    have hN2 := Lib.hid (fun W hW h1 h2 => int_go g gb ob c L j 2 255 W hW h1 hj h2 hgb hb (by omega) (by omega) hc hL hg)
    have tok0 : True := trivial
    cases hq : numP L 2 255 j with
    | none =>
      have hpl : placeP L i = none := by unfold placeP; rw [hp]; simp [hq]
      rw [hpl]
      rw [hq] at hN2
      go_enter Tryd.func45, Tryd.ntmps45
      go_wp2_with (first
        | (go_at_call 27; have _t := tok0; refine hN1.out.mono ?_; rintro e wx ⟨q, he, HB⟩; (try dsimp only at he HB); subst he; have hok2 := hok1.grown hg q; have hA2 := hA.grown q (fun a e => by injection e with e; subst e; simpa using hgb); replace gr := grown_trans gr q; clear q tok0; have tok1 : True := trivial)
        | (go_at_call 27; have _t := tok1; refine (hN2.out _ hok2 HB hA2).mono ?_; rintro e wy ⟨q, he⟩; (try dsimp only at he); unfold gaveUp at he; subst he))
      exact ⟨rfl, grown_trans gr q, rfl⟩
    | some r =>
      obtain ⟨pp, jj⟩ := r
      have hpl : placeP L i = some ((b, pp), jj) := by unfold placeP; rw [hp]; simp [hq]
      rw [hpl]
      rw [hq] at hN2
      go_enter Tryd.func45, Tryd.ntmps45
      go_wp2_with (first
        | (go_at_call 27; have _t := tok0; refine hN1.out.mono ?_; rintro e wx ⟨q, he, HB⟩; (try dsimp only at he HB); subst he; have hok2 := hok1.grown hg q; have hA2 := hA.grown q (fun a e => by injection e with e; subst e; simpa using hgb); replace H1 := grown_blk' q H1 (by simpa using hgg); replace gr := grown_trans gr q; clear q tok0; have tok1 : True := trivial)
        | (go_at_call 27; have _t := tok1; refine (hN2.out _ hok2 HB hA2).mono ?_; rintro e wy ⟨q, he, HB2⟩; (try dsimp only at he HB2); subst he; replace H1 := grown_blk' q H1 (by simpa using hgg); replace gr := grown_trans gr q; clear q tok1; obtain ⟨c0, c1⟩ := blk2 H1; have z0 := unfroz H1 0; obtain ⟨wa, hwa, Ha, gra⟩ := set_grown H1 0 (.int .i64 b); simp only [List.setIfInBounds_toArray, List.set_cons_zero, List.set_cons_succ] at Ha; have ca := (blk2 Ha).2; have za := unfroz Ha 1; obtain ⟨wb, hwb, Hb, grb⟩ := set_grown Ha 1 (.int .i64 pp); simp only [List.setIfInBounds_toArray, List.set_cons_zero, List.set_cons_succ] at Hb))
      refine bodyPost_ret (results_cell_row rfl _ _ g1 50 _ (0, 0) _ rfl Hb Tryd.underlying50 rfl (by kernel_rfl)) rfl ?_
      exact ⟨grown_new (grown_new gr gra (by omega)) grb (by omega), rfl, (HB2.grown gra (by simpa using hgg.symm)).grown grb (by simpa using hgg.symm)⟩
end Go.Proofs.YtefkklgelmbaiaaDoor
set_option linter.unusedSimpArgs false
set_option linter.unusedVariables false
namespace Go.Proofs.YtefkklgelmbaiaaDoor
open Go.RowKit Go.Proofs

theorem must_fr (W : World) (h : Ok W) : Calls Tryd.prog 29 #[.bool true] W fun e w' => e = Ending.returned (.tuple #[]) ∧ Fr W w' :=
  (must_yes W).mono fun e w' ⟨h1, h2⟩ => ⟨h1, by rw [h2]; exact Fr.refl h⟩
set_option maxHeartbeats 3200000 in
set_option maxRecDepth 100000 in
theorem takeP_yes (g gb ob c : Nat) (L : List Int) (i n : Nat) (w : World) (hw : Ok w) (H : PB w g (some ⟨gb, ob, none⟩) c L i) (hi : i + n ≤ L.length) (hc : L.length ≤ c) (hL : L.length ≤ 1099511627776) (hg : 7 ≤ g) :
    Calls Tryd.prog 44 #[.pointer (some ⟨g, 0, none⟩), .int .i64 n] w fun e w' => ∃ o' c', e = .returned (.slice (some ⟨gb, o', none⟩) n c') ∧ n ≤ c' ∧ (n = 0 ∨ o' = ob + i) ∧ w.grownBy w' (some g) ∧ PB w' g (some ⟨gb, ob, none⟩) c L (i + n) := by
  unfold PB at *
  have f := Fr.refl hw
  obtain ⟨c0, c1⟩ := blk2 H
  have w1 : IntKind.i64.wrap ((L.length : Int) - (i : Int)) = (L.length : Int) - (i : Int) := IntWalk.i64_in _ ⟨by omega, by omega⟩
  have d1 : decide ((n : Int) ≤ ((L.length : Int) - (i : Int))) = true := decide_eq_true (by omega)
  go_enter Tryd.func44, Tryd.ntmps44
  go_wp2
  have r_c0 := cell_regrown c0
  have r_c1 := cell_regrown c1
  refine wp_region_quiet_below (by kernel_rfl) (by kernel_rfl) ?_
  repeat (go_big_quiet_step (first | (go_at_call 29; exact qfr ((must_fr _ (okR f.ok _ _))))))
  refine wpQuiet_nil ?_
  intro wq hwq
  have q := Fr.regrown f.ok hwq
  clear hwq r_c0 r_c1
  replace c0 := q.cell c0
  replace c1 := q.cell c1
  replace H := q.heap H
  replace f := f.trans q
  clear q
  clear w1 d1
  have w2 : IntKind.i64.wrap ((i : Int) + (n : Int)) = (i : Int) + (n : Int) := IntWalk.i64_in _ ⟨by omega, by omega⟩
  have w3 : IntKind.i64.wrap ((i : Int) + (n : Int) - (n : Int)) = (i : Int) := by rw [IntWalk.i64_in _ ⟨by omega, by omega⟩]; omega
  have z1 := unfroz H 1
  obtain ⟨wb, hwb, HB, gr⟩ := set_grown H 1 (.int .i64 ((i : Int) + (n : Int)))
  simp only [List.setIfInBounds_toArray, List.set_cons_zero, List.set_cons_succ] at HB
  obtain ⟨e0, e1⟩ := blk2 HB
  have h1 : (i : Int) ≤ (i : Int) + (n : Int) := by omega
  have h2 : (i : Int) + (n : Int) ≤ (c : Int) := by omega
  have h3 : (0 : Int) ≤ (i : Int) := by omega
  have gr2 := grown_trans (fr_grown f (some g)) gr
  have f2 := Fr.refl (hw.grown hg gr2)
  go_wp2
  clear w2 z1 hwb c0 c1
  have r_e0 := cell_regrown e0
  have r_e1 := cell_regrown e1
  refine wp_region_quiet_below (by kernel_rfl) (by kernel_rfl) ?_
  repeat (go_big_quiet_step (fail))
  refine wpQuiet_nil ?_
  intro wq hwq
  have q := Fr.regrown f2.ok hwq
  clear hwq r_e0 r_e1
  replace e0 := q.cell e0
  replace e1 := q.cell e1
  replace HB := q.heap HB
  replace f2 := f2.trans q
  clear q
  have HE := Lib.hid (And.intro (grown_trans gr2 (fr_grown f2 (some g))) HB)
  clear gr gr2 f f2 HB
  by_cases hci : c = i
  · have hci2 : (c : Int) = (i : Int) := by omega
    go_wp2
    all_goals (go_ret; exact ⟨_, _, rfl, by omega, .inl (by omega), HE.out.1, (by have := HE.out.2; rw [hci] at this; first | exact this | (rw [Int.natCast_add]; exact this))⟩)
  · have hci2 : ¬ (c : Int) = (i : Int) := by omega
    go_wp2
    go_ret
    exact ⟨_, _, rfl, by omega, .inr rfl, HE.out.1, HE.out.2⟩
set_option maxHeartbeats 3200000 in
set_option maxRecDepth 100000 in
theorem takeP_no (g : Nat) (A : Option Addr) (c : Nat) (L : List Int) (i n : Nat) (w : World) (hw : Ok w) (H : PB w g A c L i) (hi : i ≤ L.length) (hno : L.length < i + n) (hn : n ≤ 1099511627776) (hL : L.length ≤ 1099511627776) :
    Calls Tryd.prog 44 #[.pointer (some ⟨g, 0, none⟩), .int .i64 n] w fun e w' => e = gaveUp ∧ Fr w w' := by
  unfold PB at *
  have f := Fr.refl hw
  obtain ⟨c0, c1⟩ := blk2 H
  have w1 : IntKind.i64.wrap ((L.length : Int) - (i : Int)) = (L.length : Int) - (i : Int) := IntWalk.i64_in _ ⟨by omega, by omega⟩
  have d1 : decide ((n : Int) ≤ ((L.length : Int) - (i : Int))) = false := decide_eq_false (by omega)
  go_enter Tryd.func44, Tryd.ntmps44
  go_wp2
  have r_c0 := cell_regrown c0
  have r_c1 := cell_regrown c1
  refine Reg.wp_region_tail_below 0 12 (by kernel_rfl) (by kernel_rfl) (fun _ _ d _ _ h => by cases d <;> exact h) ?_
  simp only [List.take_succ_cons, List.take_zero, List.drop_succ_cons, List.drop_zero, Reg.earlyA]
  repeat (go_big_quiet_step (fail))
  refine wpQuiet_nil ?_
  intro wq hwq
  have q := Fr.regrown f.ok hwq
  clear hwq r_c0 r_c1
  replace c0 := q.cell c0
  replace c1 := q.cell c1
  replace f := f.trans q
  clear q
  go_wp2_with (go_at_call 29; refine (must_no _).mono ?_; rintro e wx ⟨he, rfl⟩; unfold gaveUp at he; subst he)
  exact ⟨rfl, rfl, f⟩
end Go.Proofs.YtefkklgelmbaiaaDoor
set_option linter.unusedSimpArgs false
set_option linter.unusedVariables false
namespace Go.Proofs.YtefkklgelmbaiaaDoor
open Go.RowKit Go.Proofs

set_option maxHeartbeats 3200000 in
set_option maxRecDepth 100000 in
theorem tk_no (gR gO : Nat) (A : Option Addr) (c : Nat) (R : List Int) (ok : Bool) (n : Nat) (w : World) (hne : gR ≠ gO) (HR : w.heap[gR]? = some (.cells #[.slice A R.length c] 27 (0, 0))) (HO : w.heap[gO]? = some (.cells #[.bool ok] 4 (0, 0))) (hn : R.length < n) :
    Calls Tryd.prog 57 #[.int .i64 n, .pointer (some ⟨gR, 0, none⟩), .pointer (some ⟨gO, 0, none⟩)] w fun e w' => e = .returned (.slice none 0 0) ∧ w.grownBy w' (some gO) ∧ w'.heap[gO]? = some (.cells #[.bool false] 4 (0, 0)) := by
  have c0 := blk1 HR
  have d0 := blk1 HO
  have z0 := unfroz HO 0
  obtain ⟨wb, hwb, HB, gr⟩ := set_grown HO 0 (.bool false)
  simp only [List.setIfInBounds_toArray, List.set_cons_zero] at HB
  have d1 : decide ((R.length : Int) < (n : Int)) = true := decide_eq_true (by omega)
  go_enter Tryd.func57, Tryd.ntmps57
  go_wp2
  go_ret
  exact ⟨rfl, gr, HB⟩
set_option maxHeartbeats 3200000 in
set_option maxRecDepth 100000 in
theorem tk_yes (gR gO gb o c : Nat) (R : Nat) (n : Nat) (w : World) (HR : w.heap[gR]? = some (.cells #[.slice (some ⟨gb, o, none⟩) R c] 27 (0, 0))) (hn : n ≤ R) (hc : R ≤ c) (hR : R ≤ 1073741824) :
    Calls Tryd.prog 57 #[.int .i64 n, .pointer (some ⟨gR, 0, none⟩), .pointer (some ⟨gO, 0, none⟩)] w fun e w' => ∃ o', e = .returned (.slice (some ⟨gb, o, none⟩) n c) ∧ w.grownBy w' (some gR) ∧ w'.heap[gR]? = some (.cells #[.slice (some ⟨gb, o', none⟩) (R - n) (c - n)] 27 (0, 0)) ∧ (R = n ∨ o' = o + n) := by
  have c0 := blk1 HR
  have z0 := unfroz HR 0
  have d1 : decide ((R : Int) < (n : Int)) = false := decide_eq_false (by omega)
  have h0 : (0 : Int) ≤ (n : Int) := by omega
  have h1 : (n : Int) ≤ (c : Int) := by omega
  have h2 : (n : Int) ≤ (R : Int) := by omega
  by_cases hcn : c = n
  · obtain rfl : R = n := by omega
    subst hcn
    obtain ⟨wb, hwb, HB, gr⟩ := set_grown HR 0 (.slice (some ⟨gb, o, none⟩) 0 0)
    simp only [List.setIfInBounds_toArray, List.set_cons_zero] at HB
    go_enter Tryd.func57, Tryd.ntmps57
    go_wp2
    all_goals (go_ret; exact ⟨o, rfl, gr, by simpa using HB, .inl (by trivial)⟩)
  · obtain ⟨wb, hwb, HB, gr⟩ := set_grown HR 0 (.slice (some ⟨gb, o + n, none⟩) (R - n) (c - n))
    simp only [List.setIfInBounds_toArray, List.set_cons_zero] at HB
    have hci2 : ¬ (c : Int) = (n : Int) := by omega
    go_enter Tryd.func57, Tryd.ntmps57
    go_wp2
    all_goals (go_ret; exact ⟨o + n, rfl, gr, HB, .inr rfl⟩)
end Go.Proofs.YtefkklgelmbaiaaDoor
set_option linter.unusedSimpArgs false
set_option linter.unusedVariables false
namespace Go.Proofs.YtefkklgelmbaiaaDoor
open Go.RowKit Go.Proofs Go.Proofs.YtefkklgelmbaiaaDoorW.PrintWords Go.Proofs.YtefkklgelmbaiaaDoorW.PrintMore

/-- the rest of the bytes and whether all was there, in the closures' blocks -/
def KS (w : World) (gR gO gb : Nat) (R : List Int) (ok : Bool) : Prop := ∃ o c, R.length ≤ c ∧ BytesAt w (some ⟨gb, o, none⟩) R ∧ w.heap[gR]? = some (.cells #[.slice (some ⟨gb, o, none⟩) R.length c] 27 (0, 0)) ∧ w.heap[gO]? = some (.cells #[.bool ok] 4 (0, 0))
theorem KS.fr {w w' : World} {gR gO gb : Nat} {R : List Int} {ok : Bool} (h : KS w gR gO gb R ok) (q : Fr w w') : KS w' gR gO gb R ok := by
  obtain ⟨o, c, h1, h2, h3, h4⟩ := h
  exact ⟨o, c, h1, h2.fr q, q.heap h3, q.heap h4⟩
def Keep2 (gR gO : Nat) (w w' : World) : Prop := ∀ k o, w.heap[k]? = some o → k ≠ gR → k ≠ gO → w'.heap[k]? = some o
theorem Keep2.trans {gR gO : Nat} {a b c : World} (h : Keep2 gR gO a b) (k : Keep2 gR gO b c) : Keep2 gR gO a c := fun i o hi h1 h2 => k i o (h i o hi h1 h2) h1 h2
theorem Keep2.fr {gR gO : Nat} {a b : World} (q : Fr a b) : Keep2 gR gO a b := fun i o hi _ _ => q.heap hi
theorem Keep2.grownR {gR gO : Nat} {a b : World} (q : a.grownBy b (some gR)) : Keep2 gR gO a b := fun i o hi h1 _ => grown_blk' q hi (by simpa using h1)
theorem Keep2.grownO {gR gO : Nat} {a b : World} (q : a.grownBy b (some gO)) : Keep2 gR gO a b := fun i o hi _ h2 => grown_blk' q hi (by simpa using h2)
theorem row_own {w0 w w' : World} (f : Fr w0 w) (hw0 : Ok w0) {g : Nat} (q : w.grownBy w' (some g)) (hB : w0.heap.size ≤ g) : Fr w0 w' := f.row hw0 q (fun k hk => by injection hk with hk; omega)

theorem set_idem {w : World} {g : Nat} {cs : Array Value} {t : TypeId} {fz : Nat × Nat} (H : w.heap[g]? = some (.cells cs t fz)) (j : Nat) (v : Value) (hj : cs[j]? = some v) : w.setCell ⟨g, j, none⟩ v = w := by
  have hlt := (Array.getElem?_eq_some_iff.1 H).1
  have hg := (Array.getElem?_eq_some_iff.1 H).2
  have hc : cs.setIfInBounds j v = cs := by
    apply Array.ext_getElem?
    intro i
    by_cases hi : j = i
    · subst hi
      have hjs := (Array.getElem?_eq_some_iff.1 hj).1
      rw [Array.getElem?_setIfInBounds_self_of_lt hjs, hj]
    · rw [Array.getElem?_setIfInBounds_ne hi]
  have hh : (w.setCell ⟨g, j, none⟩ v).heap = w.heap := by
    apply Array.ext_getElem?
    intro i
    by_cases hi : i = g
    · subst hi
      rw [show (w.setCell ⟨i, j, none⟩ v).heap[i]? = some (.cells (cs.setIfInBounds j v) t fz) by simp [World.setCell, Array.getElem?_modify, H], hc, H]
    · exact Below.heap_setCell w ⟨g, j, none⟩ v i hi
  have h2 : w.setCell ⟨g, j, none⟩ v = { w with heap := (w.setCell ⟨g, j, none⟩ v).heap } := rfl
  rw [h2, hh]
theorem idemC {w : World} {g : Nat} {cs : Array Value} {t : TypeId} {fz : Nat × Nat} {j : Nat} {v : Value} (H : w.heap[g]? = some (.cells cs t fz)) (hc : w.cell? ⟨g, j, none⟩ = some v) : w.setCell ⟨g, j, none⟩ v = w :=
  set_idem H j v (by simpa [World.cell?, H] using hc)
theorem tkA_yes (gR gO gb : Nat) (R : List Int) (ok : Bool) (n : Nat) (w0 w : World) (hw0 : Ok w0) (f : Fr w0 w) (hBR : w0.heap.size ≤ gR) (hBO : w0.heap.size ≤ gO) (hne : gR ≠ gO) (hgb : gb < w0.heap.size) (K : KS w gR gO gb R ok) (hL : R.length ≤ 1073741824) (hn : n ≤ R.length) :
    Calls Tryd.prog 57 #[.int .i64 n, .pointer (some ⟨gR, 0, none⟩), .pointer (some ⟨gO, 0, none⟩)] w fun e w' => ∃ o c, e = .returned (.slice (some ⟨gb, o, none⟩) n c) ∧ n ≤ c ∧ Fr w0 w' ∧ Keep2 gR gO w w' ∧ BytesAt w' (some ⟨gb, o, none⟩) (R.take n) ∧ KS w' gR gO gb (R.drop n) ok := by
  obtain ⟨o, c, hc, hB, HR, HO⟩ := K
  refine (tk_yes gR gO gb o c R.length n w HR hn hc hL).mono ?_
  rintro e w' ⟨o', rfl, gr, HR', ho'⟩
  have hB' : BytesAt w' (some ⟨gb, o, none⟩) R := hB.grown gr (fun a e => by injection e with e; subst e; intro e; injection e with e; dsimp only at e; omega)
  refine ⟨o, c, rfl, by omega, row_own f hw0 gr hBR, Keep2.grownR gr, ?_, o', c - n, by rw [List.length_drop]; omega, ?_, ?_, grown_blk' gr HO (by intro e; injection e with e; exact hne e.symm)⟩
  · have := hB'.sub 0 n
    rwa [Nat.add_zero, List.drop_zero] at this
  · rcases ho' with h | h
    · have : R.drop n = [] := List.drop_eq_nil_of_le (by omega)
      rw [this]; exact .inl rfl
    · subst h
      have := hB'.sub n (R.length - n)
      rwa [List.take_of_length_le (by rw [List.length_drop]; omega)] at this
  · rw [List.length_drop]; exact HR'
theorem tkA_no (gR gO gb : Nat) (R : List Int) (ok : Bool) (n : Nat) (w0 w : World) (hw0 : Ok w0) (f : Fr w0 w) (hBR : w0.heap.size ≤ gR) (hBO : w0.heap.size ≤ gO) (hne : gR ≠ gO) (hgb : gb < w0.heap.size) (K : KS w gR gO gb R ok) (hn : R.length < n) :
    Calls Tryd.prog 57 #[.int .i64 n, .pointer (some ⟨gR, 0, none⟩), .pointer (some ⟨gO, 0, none⟩)] w fun e w' => e = .returned (.slice none 0 0) ∧ Fr w0 w' ∧ Keep2 gR gO w w' ∧ KS w' gR gO gb R false := by
  obtain ⟨o, c, hc, hB, HR, HO⟩ := K
  refine (tk_no gR gO _ c R ok n w hne HR HO hn).mono ?_
  rintro e w' ⟨rfl, gr, HO'⟩
  exact ⟨rfl, row_own f hw0 gr hBO, Keep2.grownO gr, o, c, hc, hB.grown gr (fun a e => by injection e with e; subst e; intro e; injection e with e; dsimp only at e; omega), grown_blk' gr HR (by intro e; injection e with e; exact hne e), HO'⟩

/-- a text with its length ahead -/
def countedL (R : List Int) (ok : Bool) : ByteArray × List Int × Bool := match R with
  | [] => (⟨#[]⟩, [], false)
  | b :: r => if b.toNat ≤ r.length then (strOfNums (r.take b.toNat), r.drop b.toNat, ok) else (⟨#[]⟩, r, false)
theorem countedL_len (R : List Int) (ok : Bool) : (countedL R ok).2.1.length ≤ R.length := by
  cases R with
  | nil => simp [countedL]
  | cons b r => simp only [countedL]; split <;> simp [List.length_drop] <;> omega
theorem countedL_bytes {R : List Int} (h : bytesOk R) (ok : Bool) : bytesOk (countedL R ok).2.1 := by
  cases R with
  | nil => exact fun x hx => by simp [countedL] at hx
  | cons b r =>
    have hr : bytesOk r := fun x hx => h x (List.mem_cons_of_mem _ hx)
    simp only [countedL]; split
    · exact hr.drop _
    · exact hr
theorem countedL_false (R : List Int) : (countedL R false).2.2 = false := by
  cases R with
  | nil => rfl
  | cons b r => simp only [countedL]; split <;> rfl
theorem conv_str (W : World) {A : Option Addr} {L : List Int} (h : BytesAt W A L) (hL : L.length ≤ 1073741824) (c : Nat) : (convert 27 9 (.slice A L.length c)).run Tryd.prog W = .ok (.string (strOfNums L)) W :=
  Kd.C_string (P := Tryd.prog) (src := 27) (dst := 9) (e := 5) (c := c) Tryd.underlying27 Tryd.underlying5 Tryd.underlying9 (h.toC (by omega))

set_option maxHeartbeats 6400000 in
set_option maxRecDepth 100000 in
theorem counted_any (gR gO gT gb : Nat) (R : List Int) (ok : Bool) (w0 w : World) (hw0 : Ok w0) (f : Fr w0 w) (hBR : w0.heap.size ≤ gR) (hBO : w0.heap.size ≤ gO) (hne : gR ≠ gO) (hTR : gT ≠ gR) (hTO : gT ≠ gO) (hgb : gb < w0.heap.size) (hb : bytesOk R) (hL : R.length ≤ 1073741824)
    (K : KS w gR gO gb R ok) (HT : w.heap[gT]? = some (.cells #[.func (.func 57) #[] #[.pointer (some ⟨gR, 0, none⟩), .pointer (some ⟨gO, 0, none⟩)]] 87 (0, 0))) :
    Calls Tryd.prog 58 #[.pointer (some ⟨gT, 0, none⟩)] w fun e w' => e = .returned (.string (countedL R ok).1) ∧ Fr w0 w' ∧ Keep2 gR gO w w' ∧ KS w' gR gO gb (countedL R ok).2.1 (countedL R ok).2.2 := by
  have ct := blk1 HT
  cases R with
  | nil =>
    have h1 := Lib.hid (tkA_no gR gO gb [] ok 1 w0 w hw0 f hBR hBO hne hgb K (by simp))
    have hn : ∀ W : World, (binOp .eql 27 (.slice none 0 0) (.slice none 0 0)).run Tryd.prog W = .ok (.bool true) W := fun W => Lib.run_eql_slice_nil W 27 5 none 0 0 _ _ Tryd.underlying27
    clear K
    go_enter Tryd.func58, Tryd.ntmps58
    go_wp2_with (go_at_call 57; refine h1.out.mono ?_; rintro e wx ⟨rfl, q, k, K⟩)
    go_ret
    exact ⟨rfl, q, k, K⟩
  | cons b r =>
    have h1 := Lib.hid (tkA_yes gR gO gb (b :: r) ok 1 w0 w hw0 f hBR hBO hne hgb K hL (by simp))
    have hb0 := hb b List.mem_cons_self
    obtain ⟨n, hn⟩ : ∃ n : Nat, b = (n : Int) := ⟨_, (Int.toNat_of_nonneg hb0.1).symm⟩
    subst hn
    have wn : IntKind.i64.wrap (n : Int) = (n : Int) := IntWalk.i64_in _ ⟨by omega, by omega⟩
    have tok0 : True := trivial
    have hlr : r.length ≤ 1073741824 := by simp at hL; omega
    have hnil : ∀ (W : World) (o1 c1 : Nat), (binOp .eql 27 (.slice (some ⟨gb, o1, none⟩) 1 c1) (.slice none 0 0)).run Tryd.prog W = .ok (.bool false) W := fun W o1 c1 => Lib.run_eql_slice_nil W 27 5 _ 1 c1 _ _ Tryd.underlying27
    clear K
    by_cases hle : n ≤ r.length
    · have hcl : Hid (countedL ((n : Int) :: r) ok = (strOfNums (r.take n), r.drop n, ok)) := Lib.hid (by simp only [countedL, Int.toNat_natCast]; rw [if_pos hle])
      go_enter Tryd.func58, Tryd.ntmps58
      go_wp2_with (go_at_call 57; have _t := tok0; refine h1.out.mono ?_; rintro e w1 ⟨o1, c1, rfl, hc1, f1, k1, B1, K⟩; replace HT := k1 _ _ HT hTR hTO; replace ct := blk1 HT; clear tok0; have tok1 : True := trivial)
      rw [List.drop_succ_cons, List.drop_zero] at K
      have hbc : w1.cell? ⟨gb, o1, none⟩ = some (.int .u8 (n : Int)) := by
        rcases B1 with h | ⟨g', o', e, _, h⟩
        · simp at h
        · injection e with e; injection e with e1 e2; subst e1 e2
          have := h 0 (n : Int) (by simp)
          rwa [Nat.add_zero] at this
      have k1' := Lib.hid k1
      clear k1 B1
      go_wp2
      have k1H := k1'.out
      have r_ct := cell_regrown ct
      have r_hbc := cell_regrown hbc
      refine Reg.wp_region_tail_below 0 5 (by kernel_rfl) (by kernel_rfl) (fun _ _ d _ _ h => by cases d <;> exact h) ?_
      simp only [List.take_succ_cons, List.take_zero, List.drop_succ_cons, List.drop_zero, Reg.earlyA]
      repeat (go_big_quiet_step (fail))
      refine wpQuiet_nil ?_
      intro wq hwq
      have q := Fr.regrown f1.ok hwq
      clear hwq r_ct r_hbc
      replace ct := q.cell ct
      replace hbc := q.cell hbc
      replace K := K.fr q; replace HT := q.heap HT; replace k1H := k1H.trans (Keep2.fr q)
      replace f1 := f1.trans q
      clear q
      have k1'' := Lib.hid k1H
      clear k1H
      have h2 := Lib.hid (tkA_yes gR gO gb r ok n w0 _ hw0 f1 hBR hBO hne hgb K hlr hle)
      clear K
      go_wp2_with (go_at_call 57; refine h2.out.mono ?_; rintro e w2 ⟨o2, c2, rfl, hc2, f2, k2, B2, K⟩; have hcv : (convert 27 9 (.slice (some ⟨gb, o2, none⟩) n c2)).run Tryd.prog w2 = .ok (.string (strOfNums (r.take n))) w2 := (by have := conv_str w2 B2 (by rw [List.length_take]; omega) c2; rwa [List.length_take, Nat.min_eq_left hle] at this); replace k2 := Lib.hid k2; replace K := Lib.hid K)
      go_ret
      rw [hcl.out]
      exact ⟨rfl, f2, k1''.out.trans k2.out, K.out⟩
    · have hcl : Hid (countedL ((n : Int) :: r) ok = (⟨#[]⟩, r, false)) := Lib.hid (by simp only [countedL, Int.toNat_natCast]; rw [if_neg hle])
      go_enter Tryd.func58, Tryd.ntmps58
      go_wp2_with (go_at_call 57; have _t := tok0; refine h1.out.mono ?_; rintro e w1 ⟨o1, c1, rfl, hc1, f1, k1, B1, K⟩; replace HT := k1 _ _ HT hTR hTO; replace ct := blk1 HT; clear tok0; have tok1 : True := trivial)
      rw [List.drop_succ_cons, List.drop_zero] at K
      have hbc : w1.cell? ⟨gb, o1, none⟩ = some (.int .u8 (n : Int)) := by
        rcases B1 with h | ⟨g', o', e, _, h⟩
        · simp at h
        · injection e with e; injection e with e1 e2; subst e1 e2
          have := h 0 (n : Int) (by simp)
          rwa [Nat.add_zero] at this
      have k1' := Lib.hid k1
      clear k1 B1
      go_wp2
      have k1H := k1'.out
      have r_ct := cell_regrown ct
      have r_hbc := cell_regrown hbc
      refine Reg.wp_region_tail_below 0 5 (by kernel_rfl) (by kernel_rfl) (fun _ _ d _ _ h => by cases d <;> exact h) ?_
      simp only [List.take_succ_cons, List.take_zero, List.drop_succ_cons, List.drop_zero, Reg.earlyA]
      repeat (go_big_quiet_step (fail))
      refine wpQuiet_nil ?_
      intro wq hwq
      have q := Fr.regrown f1.ok hwq
      clear hwq r_ct r_hbc
      replace ct := q.cell ct
      replace hbc := q.cell hbc
      replace K := K.fr q; replace HT := q.heap HT; replace k1H := k1H.trans (Keep2.fr q)
      replace f1 := f1.trans q
      clear q
      have k1'' := Lib.hid k1H
      clear k1H
      have h2 := Lib.hid (tkA_no gR gO gb r ok n w0 _ hw0 f1 hBR hBO hne hgb K (by omega))
      clear K
      go_wp2_with (go_at_call 57; refine h2.out.mono ?_; rintro e w2 ⟨rfl, f2, k2, K⟩; have hcv : (convert 27 9 (.slice none 0 0)).run Tryd.prog w2 = .ok (.string ⟨#[]⟩) w2 := conv_str w2 (A := none) (L := []) (.inl rfl) (by simp) 0; replace k2 := Lib.hid k2; replace K := Lib.hid K)
      go_ret
      rw [hcl.out]
      exact ⟨rfl, f2, k1''.out.trans k2.out, K.out⟩

theorem take_in {M : List Int} {a n k : Nat} (h : a + n ≤ k) : ((M.take k).drop a).take n = (M.drop a).take n := by
  rw [List.drop_take, List.take_take, Nat.min_eq_left (by omega)]
set_option maxRecDepth 100000 in
theorem get1_any (gH : Nat) (A : Option Addr) (c : Nat) (M : List Int) (hM : bytesOk M) (h23 : 23 ≤ M.length) (hc : 23 ≤ c) (a n : Nat) (h1 : 1 ≤ n) (h8 : n ≤ 8) (ha : a + n ≤ 23) (w : World) (hw : Ok w) (hA : BytesAt w A (M.take 23)) (HH : w.heap[gH]? = some (.cells #[.slice A 23 c] 27 (0, 0))) :
    Calls Tryd.prog 59 #[.agg #[.int .i64 a, .int .i64 n], .pointer (some ⟨gH, 0, none⟩)] w fun e w' => e = .returned (.int .u64 (leV ((M.drop a).take n))) ∧ Fr w w' := by
  have hl : (M.take 23).length = 23 := by rw [List.length_take]; omega
  have hG := Lib.hid (fun W (f : Fr w W) => Get_yes A c (M.take 23) (hM.take 23) a n h1 h8 (by rw [hl]; exact ha) (by rw [hl]; exact hc) (by rw [hl]; omega) W f.ok (hA.fr f))
  rw [take_in ha, hl] at hG
  obtain ⟨w1, g1, hg1, hw1, f1, hz1, H1⟩ := boxedN hw #[.int .i64 a, .int .i64 n] 103
  replace HH := f1.heap HH
  have ch := blk1 HH
  obtain ⟨c0, c1⟩ := blk2 H1
  go_enter Tryd.func59, Tryd.ntmps59
  go_wp2_with (go_at_call 42; refine (hG.out _ f1).mono ?_; rintro e wx ⟨rfl, q⟩)
  go_ret
  exact ⟨rfl, f1.trans q⟩
end Go.Proofs.YtefkklgelmbaiaaDoor
set_option linter.unusedSimpArgs false
set_option linter.unusedVariables false
namespace Go.Proofs.YtefkklgelmbaiaaDoor
open Go.RowKit Go.Proofs Go.Proofs.YtefkklgelmbaiaaDoorW.PrintWords Go.Proofs.YtefkklgelmbaiaaDoorW.PrintMore

def cl1 (M : List Int) : ByteArray × List Int × Bool := countedL (M.drop 23) true
def cl2 (M : List Int) : ByteArray × List Int × Bool := countedL (cl1 M).2.1 (cl1 M).2.2
theorem drop_getD {M : List Int} {i : Nat} (h : i < M.length) : M.drop i = M.getD i 0 :: M.drop (i + 1) := by
  rw [List.drop_eq_getElem_cons h]; simp [List.getD, h]
theorem readNL_bad {M : List Int} (h23 : 23 ≤ M.length) (h : ¬ ((cl2 M).2.2 = true ∧ (cl2 M).2.1 = [])) : readNL M = (Nod.zero, 80) := by
  unfold readNL
  by_cases h1 : M.length < 24
  · rw [if_pos h1]
  · rw [if_neg h1]
    by_cases h2 : M.length < 25 + (M.getD 23 0).toNat
    · rw [if_pos h2]
    · rw [if_neg h2]
      by_cases h3 : M.length = 25 + (M.getD 23 0).toNat + (M.getD (24 + (M.getD 23 0).toNat) 0).toNat
      · exfalso
        apply h
        have e1 : cl1 M = (strOfNums ((M.drop 24).take (M.getD 23 0).toNat), M.drop (24 + (M.getD 23 0).toNat), true) := by
          unfold cl1
          rw [drop_getD (by omega : 23 < M.length)]
          simp only [countedL]
          rw [if_pos (by rw [List.length_drop]; omega), List.drop_drop]
        unfold cl2
        rw [e1]
        dsimp only
        rw [drop_getD (by omega : 24 + (M.getD 23 0).toNat < M.length)]
        simp only [countedL]
        rw [if_pos (by rw [List.length_drop]; omega)]
        refine ⟨rfl, ?_⟩
        rw [List.drop_drop]
        exact List.drop_eq_nil_of_le (by omega)
      · rw [if_pos h3]
theorem readNL_good {M : List Int} (h23 : 23 ≤ M.length) (h : (cl2 M).2.2 = true ∧ (cl2 M).2.1 = []) : 24 < M.length ∧ (cl1 M).1 = (nodeOf M (M.getD 23 0).toNat).name ∧ (cl2 M).1 = (nodeOf M (M.getD 23 0).toNat).tgt ∧
    readNL M = if checkL (nodeOf M (M.getD 23 0).toNat) = 0 then (nodeOf M (M.getD 23 0).toNat, 0) else (Nod.zero, checkL (nodeOf M (M.getD 23 0).toNat)) := by
  have h24 : 23 < M.length := by
    by_cases h0 : 23 < M.length
    · exact h0
    · exfalso
      have e : cl1 M = (⟨#[]⟩, [], false) := by unfold cl1; rw [List.drop_eq_nil_of_le (by omega)]; rfl
      have := h.1
      unfold cl2 at this
      rw [e, countedL_false] at this
      cases this
  have hk : (M.getD 23 0).toNat ≤ (M.drop 24).length := by
    by_cases h0 : (M.getD 23 0).toNat ≤ (M.drop 24).length
    · exact h0
    · exfalso
      have e : cl1 M = (⟨#[]⟩, M.drop 24, false) := by unfold cl1; rw [drop_getD h24]; simp only [countedL]; rw [if_neg h0]
      have := h.1
      unfold cl2 at this
      rw [e, countedL_false] at this
      cases this
  have e1 : cl1 M = (strOfNums ((M.drop 24).take (M.getD 23 0).toNat), M.drop (24 + (M.getD 23 0).toNat), true) := by
    unfold cl1
    rw [drop_getD h24]
    simp only [countedL]
    rw [if_pos hk, List.drop_drop]
  have h2 := h
  unfold cl2 at h2
  rw [e1] at h2
  dsimp only at h2
  rw [List.length_drop] at hk
  have h25 : 24 + (M.getD 23 0).toNat < M.length := by
    by_cases h0 : 24 + (M.getD 23 0).toNat < M.length
    · exact h0
    · exfalso
      rw [List.drop_eq_nil_of_le (by omega)] at h2
      cases h2.1
  rw [drop_getD h25] at h2
  simp only [countedL] at h2
  have hm : (M.getD (24 + (M.getD 23 0).toNat) 0).toNat ≤ (M.drop (24 + (M.getD 23 0).toNat + 1)).length := by
    by_cases h0 : (M.getD (24 + (M.getD 23 0).toNat) 0).toNat ≤ (M.drop (24 + (M.getD 23 0).toNat + 1)).length
    · exact h0
    · rw [if_neg h0] at h2; cases h2.1
  rw [if_pos hm] at h2
  have h3 := congrArg List.length h2.2
  rw [List.length_drop, List.length_drop, List.length_nil] at h3
  rw [List.length_drop] at hm
  have hlen : M.length = 25 + (M.getD 23 0).toNat + (M.getD (24 + (M.getD 23 0).toNat) 0).toNat := by omega
  refine ⟨by omega, by rw [e1]; rfl, ?_, ?_⟩
  · unfold cl2
    rw [e1]
    dsimp only
    rw [drop_getD h25]
    simp only [countedL]
    rw [if_pos (by rw [List.length_drop]; omega)]
    show strOfNums _ = strOfNums (M.drop (25 + (M.getD 23 0).toNat))
    rw [List.take_of_length_le (by rw [List.length_drop]; omega)]
    congr 2; omega
  · unfold readNL
    rw [if_neg (by omega), if_neg (by omega), if_neg (fun h => h hlen)]
end Go.Proofs.YtefkklgelmbaiaaDoor
set_option linter.unusedSimpArgs false
set_option linter.unusedVariables false
namespace Go.Proofs.YtefkklgelmbaiaaDoor
open Go.RowKit Go.Proofs Go.Proofs.YtefkklgelmbaiaaDoorW.PrintWords Go.Proofs.YtefkklgelmbaiaaDoorW.PrintMore

/-- the result's block written full with zeros at the end -/
theorem end8 {w0 w : World} {g : Nat} {o0 o1 o2 o3 o4 o5 o6 o7 : Value} (hw0 : Ok w0) (f : Fr w0 w) (hB : w0.heap.size ≤ g) (H : w.heap[g]? = some (.cells #[o0, o1, o2, o3, o4, o5, o6, o7] 48 (0, 0))) :
    ∃ w', ((((((((w.setCell ⟨g, 0, none⟩ (.int .i64 0)).setCell ⟨g, 1, none⟩ (.int .i64 0)).setCell ⟨g, 2, none⟩ (.string ⟨#[]⟩)).setCell ⟨g, 3, none⟩ (.int .i64 0)).setCell ⟨g, 4, none⟩ (.int .i64 0)).setCell ⟨g, 5, none⟩ (.int .u64 0)).setCell ⟨g, 6, none⟩ (.int .i64 0)).setCell ⟨g, 7, none⟩ (.string ⟨#[]⟩)) = w' ∧ Fr w0 w' ∧ w'.heap[g]? = some (.cells #[.int .i64 0, .int .i64 0, .string ⟨#[]⟩, .int .i64 0, .int .i64 0, .int .u64 0, .int .i64 0, .string ⟨#[]⟩] 48 (0, 0)) :=
  store8 _ _ _ _ _ _ _ _ hw0 f hB H

set_option maxHeartbeats 12800000 in
set_option maxRecDepth 100000 in
theorem nRead_short (gb ob c : Nat) (M : List Int) (hM : bytesOk M) (hc : M.length ≤ c) (hL : M.length ≤ 1073741824) (w : World) (hw : Ok w) (hA : BytesAt w (some ⟨gb, ob, none⟩) M) (hgb : gb < w.heap.size) (h23 : M.length < 23) :
    Calls Tryd.prog 43 #[.slice (some ⟨gb, ob, none⟩) M.length c] w fun e w' => e = .returned (.tuple #[.agg #[.int .i64 0, .int .i64 0, .string ⟨#[]⟩, .int .i64 0, .int .i64 0, .int .u64 0, .int .i64 0, .string ⟨#[]⟩], .int .i64 80]) ∧ Fr w w' := by
  obtain ⟨w2, g2, hg2, hw2, f2, hz2, H2⟩ := boxedN hw #[.int .i64 0, .int .i64 0, .string ⟨#[]⟩, .int .i64 0, .int .i64 0, .int .u64 0, .int .i64 0, .string ⟨#[]⟩] 48
  obtain ⟨w4, gR, hgR, hw4, f4, hz4, H4⟩ := boxedN f2.ok #[.slice (some ⟨gb, ob, none⟩) M.length c] 27
  obtain ⟨w5, gO, hgO, hw5, f5, hz5, H5⟩ := boxedN f4.ok #[.bool true] 4
  obtain ⟨w6, gT, hgT, hw6, f6, hz6, H6⟩ := boxedN f5.ok #[.func (.func 57) #[] #[.pointer (some ⟨gR, 0, none⟩), .pointer (some ⟨gO, 0, none⟩)]] 87
  have s2 := f2.size
  have s4 := f4.size
  have s5 := f5.size
  have fB := f2.trans (f4.trans (f5.trans f6))
  have K0 : KS w6 gR gO gb M true := ⟨ob, c, hc, hA.fr fB, f6.heap (f5.heap H4), f6.heap H5⟩
  replace H2 := f6.heap (f5.heap (f4.heap H2))
  have hRO : gR ≠ gO := by omega
  have h2R : g2 ≠ gR := by omega
  have h2O : g2 ≠ gO := by omega
  have hTR : gT ≠ gR := by omega
  have hTO : gT ≠ gO := by omega
  have hBR : w.heap.size ≤ gR := by omega
  have hBO : w.heap.size ≤ gO := by omega
  have hB2 : w.heap.size ≤ g2 := by omega
  have h1 := Lib.hid (tkA_no gR gO gb M true 23 w w6 hw fB hBR hBO hRO hgb K0 h23)
  have hct := Lib.hid (fun R ok W f hb hL K HT => counted_any gR gO gT gb R ok w W hw f hBR hBO hRO hTR hTO hgb hb hL K HT)
  have HF := Lib.hid (And.intro hM hL)
  have ct := blk1 H6
  clear K0 H4 H5 f2 f4 f5 f6 s2 s4 s5 hz2 hz4 hz5 hz6 hL h23 fB hA hc
  have tok0 : True := trivial
  have hmf : ∀ (fn : Fn) (first cap : Array Value) (w : World), (Instr.makeFunc fn first cap).run Tryd.prog w = .ok (.func fn first cap) w := fun _ _ _ _ => rfl
  go_enter Tryd.func43, Tryd.ntmps43
  go_wp2_with (first
    | (go_at_call 57; have _t := tok0; refine h1.out.mono ?_; rintro e wa ⟨rfl, fa, ka, Ka⟩; clear tok0; have tok1 : True := trivial; replace H2 := ka _ _ H2 h2R h2O; replace H6 := ka _ _ H6 hTR hTO; obtain ⟨w8, g8, hg8, hw8, f8, hz8, H8⟩ := boxedN fa.ok #[.slice none 0 0] 27; have k8 := blk1 H8; have z8 := unfroz H8 0; have i8 := idemC H8 k8; replace H2 := f8.heap H2; replace H6 := f8.heap H6; replace Ka := Ka.fr f8; replace fa := fa.trans f8; replace ka := Lib.hid ka)
    | (go_at_call 58; have _t := tok1; refine (hct.out M false _ fa HF.out.1 HF.out.2 Ka H6).mono ?_; rintro e wb ⟨rfl, fb, kb, Kb⟩; clear tok1; have tok2 : True := trivial; replace H2 := kb _ _ H2 h2R h2O; replace H6 := kb _ _ H6 hTR hTO; rw [countedL_false] at Kb; replace kb := Lib.hid kb)
    | (go_at_call 58; have _t := tok2; refine (hct.out _ false _ fb (countedL_bytes HF.out.1 false) (Nat.le_trans (countedL_len M false) HF.out.2) Kb H6).mono ?_; rintro e wd ⟨rfl, fd, kd, Kd⟩; clear tok2; replace H2 := kd _ _ H2 h2R h2O; rw [countedL_false] at Kd; obtain ⟨o9, c9, _, _, HR9, HO9⟩ := Kd; have e9 := blk1 HO9; have z0 := unfroz H2 0; have z1 := unfroz H2 1; have z2 := unfroz H2 2; have z3 := unfroz H2 3; have z4 := unfroz H2 4; have z5 := unfroz H2 5; have z6 := unfroz H2 6; have z7 := unfroz H2 7; obtain ⟨w9, hw9, f9, H9⟩ := end8 hw fd hB2 H2; replace kd := Lib.hid kd; obtain ⟨c0, c1, c2, c3, c4, c5, c6, c7⟩ := blk8 H2))
  refine bodyPost_ret (results_row_tmp rfl _ _ g2 48 _ (0, 0) _ rfl H9 Tryd.underlying48 rfl (by kernel_rfl)) rfl ?_
  exact ⟨rfl, f9⟩
end Go.Proofs.YtefkklgelmbaiaaDoor
set_option linter.unusedSimpArgs false
set_option linter.unusedVariables false
namespace Go.Proofs.YtefkklgelmbaiaaDoor
open Go.RowKit Go.Proofs Go.Proofs.YtefkklgelmbaiaaDoorW.PrintWords Go.Proofs.YtefkklgelmbaiaaDoorW.PrintMore

theorem nodeOf_parts (M : List Int) (k : Nat) (h : 24 < M.length) : (nodeOf M k).ty = leV ((M.drop 0).take 1) ∧ (nodeOf M k).par = leV ((M.drop 1).take 4) ∧ (nodeOf M k).size = leV ((M.drop 5).take 4) ∧ (nodeOf M k).mode = leV ((M.drop 9).take 2) ∧ (nodeOf M k).stamp = leV ((M.drop 11).take 8) ∧ (nodeOf M k).shadow = leV ((M.drop 19).take 4) := by
  refine ⟨?_, rfl, rfl, rfl, rfl, rfl⟩
  cases M with
  | nil => simp at h
  | cons b r => simp [nodeOf, leV]
set_option maxHeartbeats 12800000 in
set_option maxRecDepth 100000 in
theorem nRead_bad (gb ob c : Nat) (M : List Int) (hM : bytesOk M) (hc : M.length ≤ c) (hL : M.length ≤ 1073741824) (w : World) (hw : Ok w) (hA : BytesAt w (some ⟨gb, ob, none⟩) M) (hgb : gb < w.heap.size) (h23 : 23 ≤ M.length) (hbad : ¬ ((cl2 M).2.2 = true ∧ (cl2 M).2.1 = [])) :
    Calls Tryd.prog 43 #[.slice (some ⟨gb, ob, none⟩) M.length c] w fun e w' => e = .returned (.tuple #[.agg #[.int .i64 0, .int .i64 0, .string ⟨#[]⟩, .int .i64 0, .int .i64 0, .int .u64 0, .int .i64 0, .string ⟨#[]⟩], .int .i64 80]) ∧ Fr w w' := by
  obtain ⟨w2, g2, hg2, hw2, f2, hz2, H2⟩ := boxedN hw #[.int .i64 0, .int .i64 0, .string ⟨#[]⟩, .int .i64 0, .int .i64 0, .int .u64 0, .int .i64 0, .string ⟨#[]⟩] 48
  obtain ⟨w4, gR, hgR, hw4, f4, hz4, H4⟩ := boxedN f2.ok #[.slice (some ⟨gb, ob, none⟩) M.length c] 27
  obtain ⟨w5, gO, hgO, hw5, f5, hz5, H5⟩ := boxedN f4.ok #[.bool true] 4
  obtain ⟨w6, gT, hgT, hw6, f6, hz6, H6⟩ := boxedN f5.ok #[.func (.func 57) #[] #[.pointer (some ⟨gR, 0, none⟩), .pointer (some ⟨gO, 0, none⟩)]] 87
  have s2 := f2.size
  have s4 := f4.size
  have s5 := f5.size
  have fB := f2.trans (f4.trans (f5.trans f6))
  have K0 : KS w6 gR gO gb M true := ⟨ob, c, hc, hA.fr fB, f6.heap (f5.heap H4), f6.heap H5⟩
  replace H2 := f6.heap (f5.heap (f4.heap H2))
  have hRO : gR ≠ gO := by omega
  have h2R : g2 ≠ gR := by omega
  have h2O : g2 ≠ gO := by omega
  have hTR : gT ≠ gR := by omega
  have hTO : gT ≠ gO := by omega
  have hBR : w.heap.size ≤ gR := by omega
  have hBO : w.heap.size ≤ gO := by omega
  have hB2 : w.heap.size ≤ g2 := by omega
  have h1 := Lib.hid (tkA_yes gR gO gb M true 23 w w6 hw fB hBR hBO hRO hgb K0 hL h23)
  have hct := Lib.hid (fun R ok W f hb hL K HT => counted_any gR gO gT gb R ok w W hw f hBR hBO hRO hTR hTO hgb hb hL K HT)
  obtain ⟨⟨t1, R1, k1⟩, e1⟩ : ∃ p, countedL (M.drop 23) true = p := ⟨_, rfl⟩
  obtain ⟨⟨t2, R2, k2⟩, e2⟩ : ∃ p, countedL R1 k1 = p := ⟨_, rfl⟩
  have hR1 : bytesOk R1 ∧ R1.length ≤ 1073741824 := by
    have h1 := countedL_bytes (hM.drop 23) true
    have h2 := countedL_len (M.drop 23) true
    rw [e1] at h1 h2
    exact ⟨h1, by rw [List.length_drop] at h2; dsimp only at h2; omega⟩
  have hcl : cl2 M = (t2, R2, k2) := by unfold cl2 cl1; rw [e1]; exact e2
  rw [hcl] at hbad
  dsimp only at hbad
  have HF := Lib.hid (And.intro (hM.drop 23) (show (M.drop 23).length ≤ 1073741824 by rw [List.length_drop]; omega))
  have HF1 := Lib.hid hR1
  have E1 := Lib.hid e1
  have E2 := Lib.hid e2
  have ct := blk1 H6
  clear K0 H4 H5 f2 f4 f5 f6 s2 s4 s5 hz2 hz4 hz5 hz6 hL h23 fB hA hc e1 e2 hcl hR1
  have tok0 : True := trivial
  have hmf : ∀ (fn : Fn) (first cap : Array Value) (w : World), (Instr.makeFunc fn first cap).run Tryd.prog w = .ok (.func fn first cap) w := fun _ _ _ _ => rfl
  cases k2 with
  | false =>
    clear hbad
    go_enter Tryd.func43, Tryd.ntmps43
    go_wp2_with (first
      | (go_at_call 57; have _t := tok0; refine h1.out.mono ?_; rintro e wa ⟨o8, c8, rfl, hc8, fa, ka, Ba, Ka⟩; clear tok0; have tok1 : True := trivial; replace H2 := ka _ _ H2 h2R h2O; replace H6 := ka _ _ H6 hTR hTO; obtain ⟨w8, g8, hg8, hw8, f8, hz8, H8⟩ := boxedN fa.ok #[.slice (some ⟨gb, o8, none⟩) 23 c8] 27; replace H2 := f8.heap H2; replace H6 := f8.heap H6; replace Ka := Ka.fr f8; replace fa := fa.trans f8; clear ka Ba)
      | (go_at_call 58; have _t := tok1; (have ct := hct.out _ true _ fa HF.out.1 HF.out.2 Ka H6); rw [E1.out] at ct; refine ct.mono ?_; clear ct; rintro e wb ⟨rfl, fb, kb, Kb⟩; clear tok1; have tok2 : True := trivial; replace H2 := kb _ _ H2 h2R h2O; replace H6 := kb _ _ H6 hTR hTO; clear kb)
      | (go_at_call 58; have _t := tok2; (have ct := hct.out _ _ _ fb HF1.out.1 HF1.out.2 Kb H6); rw [E2.out] at ct; refine ct.mono ?_; clear ct; rintro e wd ⟨rfl, fd, kd, Kd⟩; clear tok2; replace H2 := kd _ _ H2 h2R h2O; obtain ⟨o9, c9, _, _, HR9, HO9⟩ := Kd; have e9 := blk1 HO9; have z0 := unfroz H2 0; have z1 := unfroz H2 1; have z2 := unfroz H2 2; have z3 := unfroz H2 3; have z4 := unfroz H2 4; have z5 := unfroz H2 5; have z6 := unfroz H2 6; have z7 := unfroz H2 7; obtain ⟨w9, hw9, f9, H9⟩ := end8 hw fd hB2 H2; obtain ⟨c0, c1, c2, c3, c4, c5, c6, c7⟩ := blk8 H2; clear kd))
    refine bodyPost_ret (results_row_tmp rfl _ _ g2 48 _ (0, 0) _ rfl H9 Tryd.underlying48 rfl (by kernel_rfl)) rfl ?_
    exact ⟨rfl, f9⟩
  | true =>
    have hR2 : 0 < R2.length := by
      cases R2 with
      | nil => exact absurd ⟨rfl, rfl⟩ hbad
      | cons a r => simp
    clear hbad
    have d1 : decide ((0 : Int) < (R2.length : Int)) = true := decide_eq_true (by omega)
    go_enter Tryd.func43, Tryd.ntmps43
    go_wp2_with (first
      | (go_at_call 57; have _t := tok0; refine h1.out.mono ?_; rintro e wa ⟨o8, c8, rfl, hc8, fa, ka, Ba, Ka⟩; clear tok0; have tok1 : True := trivial; replace H2 := ka _ _ H2 h2R h2O; replace H6 := ka _ _ H6 hTR hTO; obtain ⟨w8, g8, hg8, hw8, f8, hz8, H8⟩ := boxedN fa.ok #[.slice (some ⟨gb, o8, none⟩) 23 c8] 27; replace H2 := f8.heap H2; replace H6 := f8.heap H6; replace Ka := Ka.fr f8; replace fa := fa.trans f8; clear ka Ba)
      | (go_at_call 58; have _t := tok1; (have ct := hct.out _ true _ fa HF.out.1 HF.out.2 Ka H6); rw [E1.out] at ct; refine ct.mono ?_; clear ct; rintro e wb ⟨rfl, fb, kb, Kb⟩; clear tok1; have tok2 : True := trivial; replace H2 := kb _ _ H2 h2R h2O; replace H6 := kb _ _ H6 hTR hTO; clear kb)
      | (go_at_call 58; have _t := tok2; (have ct := hct.out _ _ _ fb HF1.out.1 HF1.out.2 Kb H6); rw [E2.out] at ct; refine ct.mono ?_; clear ct; rintro e wd ⟨rfl, fd, kd, Kd⟩; clear tok2; replace H2 := kd _ _ H2 h2R h2O; obtain ⟨o9, c9, _, _, HR9, HO9⟩ := Kd; have e9 := blk1 HO9; have e8 := blk1 HR9; have z0 := unfroz H2 0; have z1 := unfroz H2 1; have z2 := unfroz H2 2; have z3 := unfroz H2 3; have z4 := unfroz H2 4; have z5 := unfroz H2 5; have z6 := unfroz H2 6; have z7 := unfroz H2 7; obtain ⟨w9, hw9, f9, H9⟩ := end8 hw fd hB2 H2; obtain ⟨c0, c1, c2, c3, c4, c5, c6, c7⟩ := blk8 H2; clear kd))
    refine bodyPost_ret (results_row_tmp rfl _ _ g2 48 _ (0, 0) _ rfl H9 Tryd.underlying48 rfl (by kernel_rfl)) rfl ?_
    exact ⟨rfl, f9⟩
end Go.Proofs.YtefkklgelmbaiaaDoor
set_option linter.unusedSimpArgs false
set_option linter.unusedVariables false
namespace Go.Proofs.YtefkklgelmbaiaaDoor
open Go.RowKit Go.Proofs Go.Proofs.YtefkklgelmbaiaaDoorW.PrintWords Go.Proofs.YtefkklgelmbaiaaDoorW.PrintMore

theorem BytesAt.old {w wa wd : World} {gb o : Nat} {L : List Int} (h : BytesAt wa (some ⟨gb, o, none⟩) L) (fa : Fr w wa) (fd : Fr w wd) (hgb : gb < w.heap.size) : BytesAt wd (some ⟨gb, o, none⟩) L := by
  rcases h with h | ⟨g', o', e, hg, h⟩
  · exact .inl h
  · injection e with e; injection e with e1 e2; subst e1 e2
    refine .inr ⟨gb, o, rfl, Nat.lt_of_lt_of_le hgb fd.size, fun i x hi => ?_⟩
    have h1 := h i x hi
    have h2 : wa.cell? ⟨gb, o + i, none⟩ = w.cell? ⟨gb, o + i, none⟩ := fa.below.cell (p := ⟨gb, o + i, none⟩) hgb
    have h3 : wd.cell? ⟨gb, o + i, none⟩ = w.cell? ⟨gb, o + i, none⟩ := fd.below.cell (p := ⟨gb, o + i, none⟩) hgb
    rw [h3, ← h2]; exact h1
set_option maxHeartbeats 25600000 in
set_option maxRecDepth 100000 in
theorem nRead_good (gb ob c : Nat) (M : List Int) (hM : bytesOk M) (hc : M.length ≤ c) (hL : M.length ≤ 1073741824) (w : World) (hw : Ok w) (hA : BytesAt w (some ⟨gb, ob, none⟩) M) (hgb : gb < w.heap.size) (h23 : 23 ≤ M.length) (hgood : (cl2 M).2.2 = true ∧ (cl2 M).2.1 = []) :
    Calls Tryd.prog 43 #[.slice (some ⟨gb, ob, none⟩) M.length c] w fun e w' => e = .returned (.tuple #[.agg #[.int .i64 (readNL M).1.ty, .int .i64 (readNL M).1.par, .string (readNL M).1.name, .int .i64 (readNL M).1.size, .int .i64 (readNL M).1.mode, .int .u64 (readNL M).1.stamp, .int .i64 (readNL M).1.shadow, .string (readNL M).1.tgt], .int .i64 (readNL M).2]) ∧ Fr w w' := by
  obtain ⟨h24, hnm, htg, hrd⟩ := readNL_good h23 hgood
  obtain ⟨hwf, hnm2⟩ := nodeOf_wf hM hL (M.getD 23 0).toNat
  obtain ⟨v0, v1, v2, v3, v4, v5⟩ := nodeOf_parts M (M.getD 23 0).toNat h24
  obtain ⟨N, hN⟩ : ∃ N, nodeOf M (M.getD 23 0).toNat = N := ⟨_, rfl⟩
  rw [hN] at hnm htg hwf hnm2 hrd v0 v1 v2 v3 v4 v5
  clear hN
  obtain ⟨PP, hPP⟩ : ∃ P, readNL M = P := ⟨_, rfl⟩
  rw [hPP]
  rw [hPP] at hrd
  have HRD := Lib.hid hrd
  clear hPP
  obtain ⟨w2, g2, hg2, hw2, f2, hz2, H2⟩ := boxedN hw #[.int .i64 0, .int .i64 0, .string ⟨#[]⟩, .int .i64 0, .int .i64 0, .int .u64 0, .int .i64 0, .string ⟨#[]⟩] 48
  obtain ⟨w4, gR, hgR, hw4, f4, hz4, H4⟩ := boxedN f2.ok #[.slice (some ⟨gb, ob, none⟩) M.length c] 27
  obtain ⟨w5, gO, hgO, hw5, f5, hz5, H5⟩ := boxedN f4.ok #[.bool true] 4
  obtain ⟨w6, gT, hgT, hw6, f6, hz6, H6⟩ := boxedN f5.ok #[.func (.func 57) #[] #[.pointer (some ⟨gR, 0, none⟩), .pointer (some ⟨gO, 0, none⟩)]] 87
  have s2 := f2.size
  have s4 := f4.size
  have s5 := f5.size
  have fB := f2.trans (f4.trans (f5.trans f6))
  have K0 : KS w6 gR gO gb M true := ⟨ob, c, hc, hA.fr fB, f6.heap (f5.heap H4), f6.heap H5⟩
  replace H2 := f6.heap (f5.heap (f4.heap H2))
  have hRO : gR ≠ gO := by omega
  have h2R : g2 ≠ gR := by omega
  have h2O : g2 ≠ gO := by omega
  have hTR : gR < gT := by omega
  have hTO : gO < gT := by omega
  have hBR : w.heap.size ≤ gR := by omega
  have hBO : w.heap.size ≤ gO := by omega
  have hB2 : w.heap.size ≤ g2 := by omega
  have h1 := Lib.hid (tkA_yes gR gO gb M true 23 w w6 hw fB hBR hBO hRO hgb K0 hL h23)
  have hct := Lib.hid (fun R ok W f hb hL K HT => counted_any gR gO gT gb R ok w W hw f hBR hBO hRO (by omega) (by omega) hgb hb hL K HT)
  have hGt := Lib.hid (fun (wa W : World) (o8 c8 : Nat) (hc8 : 23 ≤ c8) (fa : Fr w wa) (Ba : BytesAt wa (some ⟨gb, o8, none⟩) (M.take 23)) g8 a n h1 h8 ha (fW : Fr w W) HH => get1_any g8 (some ⟨gb, o8, none⟩) c8 M hM h23 hc8 a n h1 h8 ha W fW.ok (Ba.old fa fW hgb) HH)
  obtain ⟨⟨t1, R1, k1⟩, e1⟩ : ∃ p, countedL (M.drop 23) true = p := ⟨_, rfl⟩
  obtain ⟨⟨t2, R2, k2⟩, e2⟩ : ∃ p, countedL R1 k1 = p := ⟨_, rfl⟩
  have hR1 : bytesOk R1 ∧ R1.length ≤ 1073741824 := by
    have h1 := countedL_bytes (hM.drop 23) true
    have h2 := countedL_len (M.drop 23) true
    rw [e1] at h1 h2
    exact ⟨h1, by rw [List.length_drop] at h2; dsimp only at h2; omega⟩
  have hcl1 : cl1 M = (t1, R1, k1) := e1
  have hcl : cl2 M = (t2, R2, k2) := by unfold cl2; rw [hcl1]; exact e2
  rw [hcl] at hgood htg
  rw [hcl1] at hnm
  dsimp only at hgood hnm htg
  obtain ⟨rfl, rfl⟩ := hgood
  subst hnm htg
  have HF := Lib.hid (And.intro (hM.drop 23) (show (M.drop 23).length ≤ 1073741824 by rw [List.length_drop]; omega))
  have HF1 := Lib.hid hR1
  have E1 := Lib.hid e1
  have E2 := Lib.hid e2
  have ct := blk1 H6
  have HW := Lib.hid (And.intro hwf hnm2)
  have b0 := getD_byte hM 0
  have w0 : 0 ≤ N.ty ∧ N.ty ≤ 255 := by
    have h := nodeOf_parts M 0 h24
    have : N.ty = M.getD 0 0 := by rw [v0, ← h.1]; rfl
    omega
  have wt : ∀ i, 0 ≤ leV ((M.drop i).take 4) ∧ leV ((M.drop i).take 4) ≤ 4294967295 := fun i => leV_4 ((hM.drop i).take 4) (n := 4) (by rw [List.length_take]; omega) (by omega)
  have w1 := wt 1
  have w2' := wt 5
  have w5' := wt 19
  have w3 : 0 ≤ leV ((M.drop 9).take 2) ∧ leV ((M.drop 9).take 2) ≤ 4294967295 := leV_4 ((hM.drop 9).take 2) (n := 2) (by rw [List.length_take]; omega) (by omega)
  rw [← v1] at w1
  rw [← v2] at w2'
  rw [← v5] at w5'
  rw [← v3] at w3
  have x0 : IntKind.i64.wrap N.ty = N.ty := IntWalk.i64_in _ ⟨by omega, by omega⟩
  have x1 : IntKind.i64.wrap N.par = N.par := IntWalk.i64_in _ ⟨by omega, by omega⟩
  have x2 : IntKind.i64.wrap N.size = N.size := IntWalk.i64_in _ ⟨by omega, by omega⟩
  have x3 : IntKind.i64.wrap N.mode = N.mode := IntWalk.i64_in _ ⟨by omega, by omega⟩
  have x5 : IntKind.i64.wrap N.shadow = N.shadow := IntWalk.i64_in _ ⟨by omega, by omega⟩
  have X := Lib.hid (And.intro x0 (And.intro x1 (And.intro x2 (And.intro x3 x5))))
  have HV := Lib.hid (And.intro v0 (And.intro v1 (And.intro v2 (And.intro v3 (And.intro v4 v5)))))
  clear x0 x1 x2 x3 x5 v0 v1 v2 v3 v4 v5 w0 w1 w2' w3 w5' wt b0 hwf hnm2 hrd
  clear K0 H4 H5 f2 f4 f5 f6 s2 s4 s5 hz2 hz4 hz5 hz6 hL h23 h24 fB hA hc e1 e2 hcl hcl1 hR1 hM
  have tok0 : True := trivial
  have hmf : ∀ (fn : Fn) (first cap : Array Value) (w : World), (Instr.makeFunc fn first cap).run Tryd.prog w = .ok (.func fn first cap) w := fun _ _ _ _ => rfl
  go_enter Tryd.func43, Tryd.ntmps43
  go_upto_region 11 with (first
    | (go_at_call 57; have _t := tok0; refine h1.out.mono ?_; rintro e wa ⟨o8, c8, rfl, hc8, fa, ka, Ba, Ka⟩; clear tok0; have tok1 : True := trivial; replace H2 := ka _ _ H2 h2R h2O; replace H6 := ka _ _ H6 (by omega) (by omega); obtain ⟨w8, g8, hg8, hw8, f8, hz8, H8⟩ := boxedN fa.ok #[.slice (some ⟨gb, o8, none⟩) 23 c8] 27; have hT8 := (Array.getElem?_eq_some_iff.1 H6).1; have h8R : g8 ≠ gR := (by omega); have h8O : g8 ≠ gO := (by omega); replace H2 := f8.heap H2; replace H6 := f8.heap H6; replace Ka := Ka.fr f8; (have hG8 := Lib.hid (fun W f H a n h1 h8 ha => hGt.out wa W o8 c8 hc8 fa Ba g8 a n h1 h8 ha f H)); replace fa := fa.trans f8; clear ka Ba)
    | (go_at_call 58; have _t := tok1; (have ct := hct.out _ true _ fa HF.out.1 HF.out.2 Ka H6); rw [E1.out] at ct; refine ct.mono ?_; clear ct; rintro e wb ⟨rfl, fb, kb, Kb⟩; clear tok1; have tok2 : True := trivial; replace H2 := kb _ _ H2 h2R h2O; replace H6 := kb _ _ H6 (by omega) (by omega); replace H8 := kb _ _ H8 h8R h8O; clear kb)
    | (go_at_call 58; have _t := tok2; (have ct := hct.out _ _ _ fb HF1.out.1 HF1.out.2 Kb H6); rw [E2.out] at ct; refine ct.mono ?_; clear ct; rintro e w1 ⟨rfl, fd, kd, Kd⟩; clear tok2; replace H2 := kd _ _ H2 h2R h2O; replace H8 := kd _ _ H8 h8R h8O; obtain ⟨o9, c9, _, _, HR9, HO9⟩ := Kd; have e9 := blk1 HO9; have e8 := blk1 HR9; clear kd))
  obtain ⟨x0, x1, x2, x3, x5⟩ := X.out
  have hw1ok := fd.ok
  have hGG : Hid (∀ (a n : Nat) (v : Int), leV ((M.drop a).take n) = v → 1 ≤ n → n ≤ 8 → a + n ≤ 23 → ∀ W, Fr w1 W → Calls Tryd.prog 59 #[.agg #[.int .i64 a, .int .i64 n], .pointer (some ⟨g8, 0, none⟩)] W fun e w' => e = .returned (.int .u64 v) ∧ Fr W w') := Lib.hid (fun a n v hv h1 h8 ha W fW => by
    subst hv
    exact hG8.out W (fd.trans fW) (fW.heap H8) a n h1 h8 ha)
  have hG0 : ∀ W, Fr w1 W → Calls Tryd.prog 59 #[.agg #[.int .i64 0, .int .i64 1], .pointer (some ⟨g8, 0, none⟩)] W fun e w' => e = .returned (.int .u64 N.ty) ∧ Fr W w' := fun W f => hGG.out 0 1 _ HV.out.1.symm (by omega) (by omega) (by omega) W f
  have hG1 : ∀ W, Fr w1 W → Calls Tryd.prog 59 #[.agg #[.int .i64 1, .int .i64 4], .pointer (some ⟨g8, 0, none⟩)] W fun e w' => e = .returned (.int .u64 N.par) ∧ Fr W w' := fun W f => hGG.out 1 4 _ HV.out.2.1.symm (by omega) (by omega) (by omega) W f
  have hG2 : ∀ W, Fr w1 W → Calls Tryd.prog 59 #[.agg #[.int .i64 5, .int .i64 4], .pointer (some ⟨g8, 0, none⟩)] W fun e w' => e = .returned (.int .u64 N.size) ∧ Fr W w' := fun W f => hGG.out 5 4 _ HV.out.2.2.1.symm (by omega) (by omega) (by omega) W f
  have hG3 : ∀ W, Fr w1 W → Calls Tryd.prog 59 #[.agg #[.int .i64 9, .int .i64 2], .pointer (some ⟨g8, 0, none⟩)] W fun e w' => e = .returned (.int .u64 N.mode) ∧ Fr W w' := fun W f => hGG.out 9 2 _ HV.out.2.2.2.1.symm (by omega) (by omega) (by omega) W f
  have hG4 : ∀ W, Fr w1 W → Calls Tryd.prog 59 #[.agg #[.int .i64 11, .int .i64 8], .pointer (some ⟨g8, 0, none⟩)] W fun e w' => e = .returned (.int .u64 N.stamp) ∧ Fr W w' := fun W f => hGG.out 11 8 _ HV.out.2.2.2.2.1.symm (by omega) (by omega) (by omega) W f
  have hG5 : ∀ W, Fr w1 W → Calls Tryd.prog 59 #[.agg #[.int .i64 19, .int .i64 4], .pointer (some ⟨g8, 0, none⟩)] W fun e w' => e = .returned (.int .u64 N.shadow) ∧ Fr W w' := fun W f => hGG.out 19 4 _ HV.out.2.2.2.2.2.symm (by omega) (by omega) (by omega) W f
  have y0 : ∀ W, Fr w1 W → W.cell? ⟨0, 0, none⟩ = some (.int .i64 0) := fun W f => (gl6 f.ok).1
  have y1 : ∀ W, Fr w1 W → W.cell? ⟨0, 1, none⟩ = some (.int .i64 1) := fun W f => (gl6 f.ok).2.1
  have y2 : ∀ W, Fr w1 W → W.cell? ⟨1, 0, none⟩ = some (.int .i64 1) := fun W f => (gl6 f.ok).2.2.1
  have y3 : ∀ W, Fr w1 W → W.cell? ⟨1, 1, none⟩ = some (.int .i64 4) := fun W f => (gl6 f.ok).2.2.2.1
  have y4 : ∀ W, Fr w1 W → W.cell? ⟨2, 0, none⟩ = some (.int .i64 5) := fun W f => (gl6 f.ok).2.2.2.2.1
  have y5 : ∀ W, Fr w1 W → W.cell? ⟨2, 1, none⟩ = some (.int .i64 4) := fun W f => (gl6 f.ok).2.2.2.2.2.1
  have y6 : ∀ W, Fr w1 W → W.cell? ⟨3, 0, none⟩ = some (.int .i64 9) := fun W f => (gl6 f.ok).2.2.2.2.2.2.1
  have y7 : ∀ W, Fr w1 W → W.cell? ⟨3, 1, none⟩ = some (.int .i64 2) := fun W f => (gl6 f.ok).2.2.2.2.2.2.2.1
  have y8 : ∀ W, Fr w1 W → W.cell? ⟨4, 0, none⟩ = some (.int .i64 11) := fun W f => (gl6 f.ok).2.2.2.2.2.2.2.2.1
  have y9 : ∀ W, Fr w1 W → W.cell? ⟨4, 1, none⟩ = some (.int .i64 8) := fun W f => (gl6 f.ok).2.2.2.2.2.2.2.2.2.1
  have y10 : ∀ W, Fr w1 W → W.cell? ⟨5, 0, none⟩ = some (.int .i64 19) := fun W f => (gl6 f.ok).2.2.2.2.2.2.2.2.2.2.1
  have y11 : ∀ W, Fr w1 W → W.cell? ⟨5, 1, none⟩ = some (.int .i64 4) := fun W f => (gl6 f.ok).2.2.2.2.2.2.2.2.2.2.2
  have hS0 : Fr w1 w1.drew := (Fr.refl hw1ok).drew
  have HH2 := Lib.hid H2
  have Hfd := Lib.hid fd
  clear H2 H6 H8 HR9 HO9 e8 e9 ct fa fb fd hw2 hw4 hw5 hw6 hw8 hmf
  have hfz : ∀ (W : World) (g j : Nat), W.heap[g]? = some (.cells #[.int .i64 0, .int .i64 0, .string ⟨#[]⟩, .int .i64 0, .int .i64 0, .int .u64 0, .int .i64 0, .string ⟨#[]⟩] 48 (0, 0)) → W.frozen? ⟨g, j, none⟩ = false := fun W g j h => unfroz h j
  have hk0 : ∀ (W : World) (g : Nat), W.heap[g]? = some (.cells #[.int .i64 0, .int .i64 0, .string ⟨#[]⟩, .int .i64 0, .int .i64 0, .int .u64 0, .int .i64 0, .string ⟨#[]⟩] 48 (0, 0)) → W.cell? ⟨g, 0, none⟩ = some (.int .i64 0) := fun W g h => blk_cell h rfl
  have hk1 : ∀ (W : World) (g : Nat), W.heap[g]? = some (.cells #[.int .i64 0, .int .i64 0, .string ⟨#[]⟩, .int .i64 0, .int .i64 0, .int .u64 0, .int .i64 0, .string ⟨#[]⟩] 48 (0, 0)) → W.cell? ⟨g, 1, none⟩ = some (.int .i64 0) := fun W g h => blk_cell h rfl
  have hk2 : ∀ (W : World) (g : Nat), W.heap[g]? = some (.cells #[.int .i64 0, .int .i64 0, .string ⟨#[]⟩, .int .i64 0, .int .i64 0, .int .u64 0, .int .i64 0, .string ⟨#[]⟩] 48 (0, 0)) → W.cell? ⟨g, 2, none⟩ = some (.string ⟨#[]⟩) := fun W g h => blk_cell h rfl
  have hk3 : ∀ (W : World) (g : Nat), W.heap[g]? = some (.cells #[.int .i64 0, .int .i64 0, .string ⟨#[]⟩, .int .i64 0, .int .i64 0, .int .u64 0, .int .i64 0, .string ⟨#[]⟩] 48 (0, 0)) → W.cell? ⟨g, 3, none⟩ = some (.int .i64 0) := fun W g h => blk_cell h rfl
  have hk4 : ∀ (W : World) (g : Nat), W.heap[g]? = some (.cells #[.int .i64 0, .int .i64 0, .string ⟨#[]⟩, .int .i64 0, .int .i64 0, .int .u64 0, .int .i64 0, .string ⟨#[]⟩] 48 (0, 0)) → W.cell? ⟨g, 4, none⟩ = some (.int .i64 0) := fun W g h => blk_cell h rfl
  have hk5 : ∀ (W : World) (g : Nat), W.heap[g]? = some (.cells #[.int .i64 0, .int .i64 0, .string ⟨#[]⟩, .int .i64 0, .int .i64 0, .int .u64 0, .int .i64 0, .string ⟨#[]⟩] 48 (0, 0)) → W.cell? ⟨g, 5, none⟩ = some (.int .u64 0) := fun W g h => blk_cell h rfl
  have hk6 : ∀ (W : World) (g : Nat), W.heap[g]? = some (.cells #[.int .i64 0, .int .i64 0, .string ⟨#[]⟩, .int .i64 0, .int .i64 0, .int .u64 0, .int .i64 0, .string ⟨#[]⟩] 48 (0, 0)) → W.cell? ⟨g, 6, none⟩ = some (.int .i64 0) := fun W g h => blk_cell h rfl
  have hk7 : ∀ (W : World) (g : Nat), W.heap[g]? = some (.cells #[.int .i64 0, .int .i64 0, .string ⟨#[]⟩, .int .i64 0, .int .i64 0, .int .u64 0, .int .i64 0, .string ⟨#[]⟩] 48 (0, 0)) → W.cell? ⟨g, 7, none⟩ = some (.string ⟨#[]⟩) := fun W g h => blk_cell h rfl
  go_cut [12] (fun v12 wc => ∃ g12, v12 = .pointer (some ⟨g12, 0, none⟩) ∧ wc.heap[g12]? = some (.cells #[.int .i64 N.ty, .int .i64 N.par, .string N.name, .int .i64 N.size, .int .i64 N.mode, .int .u64 N.stamp, .int .i64 N.shadow, .string N.tgt] 48 (0, 0)) ∧ Fr w1 wc)
  case first =>
    have tok0 : True := trivial
    go_region_held3 (fun w' => Fr w1 w') (first | (with_reducible exact hK) | (with_reducible exact hS0) | (with_reducible exact Fr.alloc (by assumption) _) | (with_reducible exact Fr.drew (Fr.alloc (Fr.refl hw1ok) _)) | (with_reducible exact fr8 hw1ok (by assumption) hbk hgk) | go_keep)
      (first
        | (go_at_call 59; have _t := tok0; refine (hG0 _ (by assumption)).mono ?_; clear tok0 _t; have tok1 : True := trivial; rintro e wx ⟨rfl, q⟩; have hK := Fr.trans (by assumption) q; (first | replace hbk := q.heap hbk | (have hbg := alloc_call (o := .cells #[.int .i64 0, .int .i64 0, .string ⟨#[]⟩, .int .i64 0, .int .i64 0, .int .u64 0, .int .i64 0, .string ⟨#[]⟩] 48) q (by assumption); obtain ⟨hbk, hgk⟩ := hbg) | (have hbg := alloc_call' (o := .cells #[.int .i64 0, .int .i64 0, .string ⟨#[]⟩, .int .i64 0, .int .i64 0, .int .u64 0, .int .i64 0, .string ⟨#[]⟩] 48) q hw1ok; obtain ⟨hbk, hgk⟩ := hbg) | skip))
        | (go_at_call 59; have _t := tok1; refine (hG1 _ (by assumption)).mono ?_; clear tok1 _t; have tok2 : True := trivial; rintro e wx ⟨rfl, q⟩; have hK := Fr.trans (by assumption) q; (first | replace hbk := q.heap hbk | (have hbg := alloc_call (o := .cells #[.int .i64 0, .int .i64 0, .string ⟨#[]⟩, .int .i64 0, .int .i64 0, .int .u64 0, .int .i64 0, .string ⟨#[]⟩] 48) q (by assumption); obtain ⟨hbk, hgk⟩ := hbg) | (have hbg := alloc_call' (o := .cells #[.int .i64 0, .int .i64 0, .string ⟨#[]⟩, .int .i64 0, .int .i64 0, .int .u64 0, .int .i64 0, .string ⟨#[]⟩] 48) q hw1ok; obtain ⟨hbk, hgk⟩ := hbg) | skip))
        | (go_at_call 59; have _t := tok2; refine (hG2 _ (by assumption)).mono ?_; clear tok2 _t; have tok3 : True := trivial; rintro e wx ⟨rfl, q⟩; have hK := Fr.trans (by assumption) q; (first | replace hbk := q.heap hbk | (have hbg := alloc_call (o := .cells #[.int .i64 0, .int .i64 0, .string ⟨#[]⟩, .int .i64 0, .int .i64 0, .int .u64 0, .int .i64 0, .string ⟨#[]⟩] 48) q (by assumption); obtain ⟨hbk, hgk⟩ := hbg) | (have hbg := alloc_call' (o := .cells #[.int .i64 0, .int .i64 0, .string ⟨#[]⟩, .int .i64 0, .int .i64 0, .int .u64 0, .int .i64 0, .string ⟨#[]⟩] 48) q hw1ok; obtain ⟨hbk, hgk⟩ := hbg) | skip))
        | (go_at_call 59; have _t := tok3; refine (hG3 _ (by assumption)).mono ?_; clear tok3 _t; have tok4 : True := trivial; rintro e wx ⟨rfl, q⟩; have hK := Fr.trans (by assumption) q; (first | replace hbk := q.heap hbk | (have hbg := alloc_call (o := .cells #[.int .i64 0, .int .i64 0, .string ⟨#[]⟩, .int .i64 0, .int .i64 0, .int .u64 0, .int .i64 0, .string ⟨#[]⟩] 48) q (by assumption); obtain ⟨hbk, hgk⟩ := hbg) | (have hbg := alloc_call' (o := .cells #[.int .i64 0, .int .i64 0, .string ⟨#[]⟩, .int .i64 0, .int .i64 0, .int .u64 0, .int .i64 0, .string ⟨#[]⟩] 48) q hw1ok; obtain ⟨hbk, hgk⟩ := hbg) | skip))
        | (go_at_call 59; have _t := tok4; refine (hG4 _ (by assumption)).mono ?_; clear tok4 _t; have tok5 : True := trivial; rintro e wx ⟨rfl, q⟩; have hK := Fr.trans (by assumption) q; (first | replace hbk := q.heap hbk | (have hbg := alloc_call (o := .cells #[.int .i64 0, .int .i64 0, .string ⟨#[]⟩, .int .i64 0, .int .i64 0, .int .u64 0, .int .i64 0, .string ⟨#[]⟩] 48) q (by assumption); obtain ⟨hbk, hgk⟩ := hbg) | (have hbg := alloc_call' (o := .cells #[.int .i64 0, .int .i64 0, .string ⟨#[]⟩, .int .i64 0, .int .i64 0, .int .u64 0, .int .i64 0, .string ⟨#[]⟩] 48) q hw1ok; obtain ⟨hbk, hgk⟩ := hbg) | skip))
        | (go_at_call 59; have _t := tok5; refine (hG5 _ (by assumption)).mono ?_; clear tok5 _t; have tok6 : True := trivial; rintro e wx ⟨rfl, q⟩; have hK := Fr.trans (by assumption) q; (first | replace hbk := q.heap hbk | (have hbg := alloc_call (o := .cells #[.int .i64 0, .int .i64 0, .string ⟨#[]⟩, .int .i64 0, .int .i64 0, .int .u64 0, .int .i64 0, .string ⟨#[]⟩] 48) q (by assumption); obtain ⟨hbk, hgk⟩ := hbg) | (have hbg := alloc_call' (o := .cells #[.int .i64 0, .int .i64 0, .string ⟨#[]⟩, .int .i64 0, .int .i64 0, .int .u64 0, .int .i64 0, .string ⟨#[]⟩] 48) q hw1ok; obtain ⟨hbk, hgk⟩ := hbg) | skip)))
    all_goals
      go_wp2_with fail
      go_meet
      refine ⟨_, rfl, ?_, by assumption⟩
      first | (with_reducible exact st8 hw1ok hK hbk hgk) | (with_reducible exact heap_alloc_new _ _)
  case rest =>
    obtain ⟨g12, rfl, H12, fc⟩ := hcut
    have H2 := fc.heap HH2.out
    have f := Hfd.out.trans fc
    clear x0 x1 x2 x3 x5 hG0 hG1 hG2 hG3 hG4 hG5 y0 y1 y2 y3 y4 y5 y6 y7 y8 y9 y10 y11 hS0 hfz hk0 hk1 hk2 hk3 hk4 hk5 hk6 hk7 fc
    obtain ⟨c0, c1, c2, c3, c4, c5, c6, c7⟩ := blk8 H12
    obtain ⟨ee, hee⟩ : ∃ ee, checkL N = ee := ⟨_, rfl⟩
    have hCk := Lib.hid (fun W hW => check_any N HW.out.1 HW.out.2 W hW)
    rw [hee] at hCk
    have HEE := Lib.hid hee
    clear hee
    by_cases hz : ee = 0
    · subst hz
      go_upto_region 13 with (go_at_call 50; refine (hCk.out _ f.ok).mono ?_; rintro e wx ⟨rfl, q⟩; replace H2 := q.heap H2; replace H12 := q.heap H12; replace f := f.trans q; clear q c0 c1 c2 c3 c4 c5 c6 c7)
      have z0 := unfroz H2 0; have z1 := unfroz H2 1; have z2 := unfroz H2 2; have z3 := unfroz H2 3; have z4 := unfroz H2 4; have z5 := unfroz H2 5; have z6 := unfroz H2 6; have z7 := unfroz H2 7
      obtain ⟨e0, e1, e2, e3, e4, e5, e6, e7⟩ := blk8 H2
      obtain ⟨c0, c1, c2, c3, c4, c5, c6, c7⟩ := blk8 H12
      obtain ⟨w8, hw8, f8, H8⟩ := store8 (.int .i64 N.ty) (.int .i64 N.par) (.string N.name) (.int .i64 N.size) (.int .i64 N.mode) (.int .u64 N.stamp) (.int .i64 N.shadow) (.string N.tgt) hw f hB2 H2
      go_wp2
      refine bodyPost_ret (results_row_tmp rfl _ _ g2 48 _ (0, 0) _ rfl H8 Tryd.underlying48 rfl (by kernel_rfl)) rfl ?_
      exact ⟨(by rw [HRD.out, if_pos HEE.out]; rfl), f8⟩
    · have HNZ := Lib.hid hz
      have hne : (ee != 0) = true := by simpa using hz
      clear hz
      go_upto_region 13 with (go_at_call 50; refine (hCk.out _ f.ok).mono ?_; rintro e wx ⟨rfl, q⟩; replace H2 := q.heap H2; replace f := f.trans q; clear q)
      have z0 := unfroz H2 0; have z1 := unfroz H2 1; have z2 := unfroz H2 2; have z3 := unfroz H2 3; have z4 := unfroz H2 4; have z5 := unfroz H2 5; have z6 := unfroz H2 6; have z7 := unfroz H2 7
      obtain ⟨e0, e1, e2, e3, e4, e5, e6, e7⟩ := blk8 H2
      obtain ⟨w8, hw8, f8, H8⟩ := end8 hw f hB2 H2
      go_wp2
      refine bodyPost_ret (results_row_tmp rfl _ _ g2 48 _ (0, 0) _ rfl H8 Tryd.underlying48 rfl (by kernel_rfl)) rfl ?_
      exact ⟨(by rw [HRD.out, if_neg (by rw [HEE.out]; exact HNZ.out), HEE.out]; rfl), f8⟩
theorem nRead_any (gb ob c : Nat) (M : List Int) (hM : bytesOk M) (hc : M.length ≤ c) (hL : M.length ≤ 1073741824) (w : World) (hw : Ok w) (hA : BytesAt w (some ⟨gb, ob, none⟩) M) (hgb : gb < w.heap.size) :
    Calls Tryd.prog 43 #[.slice (some ⟨gb, ob, none⟩) M.length c] w fun e w' => e = .returned (.tuple #[.agg #[.int .i64 (readNL M).1.ty, .int .i64 (readNL M).1.par, .string (readNL M).1.name, .int .i64 (readNL M).1.size, .int .i64 (readNL M).1.mode, .int .u64 (readNL M).1.stamp, .int .i64 (readNL M).1.shadow, .string (readNL M).1.tgt], .int .i64 (readNL M).2]) ∧ Fr w w' := by
  by_cases h23 : M.length < 23
  · have hr : readNL M = (Nod.zero, 80) := by unfold readNL; rw [if_pos (by omega)]
    rw [hr]
    exact nRead_short gb ob c M hM hc hL w hw hA hgb h23
  · by_cases hg : (cl2 M).2.2 = true ∧ (cl2 M).2.1 = []
    · exact nRead_good gb ob c M hM hc hL w hw hA hgb (by omega) hg
    · rw [readNL_bad (by omega) hg]
      exact nRead_bad gb ob c M hM hc hL w hw hA hgb (by omega) hg
end Go.Proofs.YtefkklgelmbaiaaDoor
