/- point.Read's recover by its contract, and the two ways out of point.Read. -/
import Derived.Test.YtefkklgelmbaiaaDoorZ6
set_option linter.unusedSimpArgs false
set_option linter.unusedVariables false
namespace Go.Proofs.YtefkklgelmbaiaaDoor
open Go.RowKit Go.Proofs

section
variable {g gb ob c : Nat} {L : List Int} {i : Nat} {w : World} (hw : Ok w) (H : PB w g (some ⟨gb, ob, none⟩) c L i) (hi : i ≤ L.length) (hA : BytesAt w (some ⟨gb, ob, none⟩) L) (hgb : gb ≠ g) (hb : bytesOk L) (hc : L.length ≤ c) (hL : L.length ≤ 1073741824) (hg : 7 ≤ g)
include hw H hi hA hgb hb hc hL hg
theorem int_or (size : Nat) (most : Int) (hs : 1 ≤ size ∧ size ≤ 8) (hm : most ≤ 281474976710656) (X : Prop) (hX : numP L size most i = none → X) :
    Calls Tryd.prog 27 #[.pointer (some ⟨g, 0, none⟩), .int .i64 size, .int .u64 most] w fun e w' => w.grownBy w' (some g) ∧ ((X ∧ e = .panicked [{ v := .iface 72 (.agg #[]), recovered := false }]) ∨ ∃ v j, numP L size most i = some (v, j) ∧ e = .returned (.int .i64 v) ∧ PB w' g (some ⟨gb, ob, none⟩) c L j ∧ j ≤ L.length ∧ 0 ≤ v ∧ v ≤ most) := by
  refine (int_go g gb ob c L i size most w hw H hi hA hgb hb hs hm hc hL hg).mono ?_
  rintro e w' ⟨gr, he⟩
  refine ⟨gr, ?_⟩
  cases hp : numP L size most i with
  | none => rw [hp] at he; exact .inl ⟨hX hp, he⟩
  | some p =>
    rw [hp] at he
    obtain ⟨v, j⟩ := p
    obtain ⟨h1, h2, _, h4⟩ := numP_le hb hp
    exact .inr ⟨v, j, rfl, he.1, he.2, h4, h1, h2⟩
theorem num_or (size : Nat) (most : Int) (hs : 1 ≤ size ∧ size ≤ 8) (X : Prop) (hX : numP L size most i = none → X) :
    Calls Tryd.prog 26 #[.pointer (some ⟨g, 0, none⟩), .int .i64 size, .int .u64 most] w fun e w' => w.grownBy w' (some g) ∧ ((X ∧ e = .panicked [{ v := .iface 72 (.agg #[]), recovered := false }]) ∨ ∃ v j, numP L size most i = some (v, j) ∧ e = .returned (.int .u64 v) ∧ PB w' g (some ⟨gb, ob, none⟩) c L j ∧ j ≤ L.length ∧ 0 ≤ v ∧ v ≤ most) := by
  refine (num_go g gb ob c L i size most w hw H hi hA hgb hb hs hc hL hg).mono ?_
  rintro e w' ⟨gr, he⟩
  refine ⟨gr, ?_⟩
  cases hp : numP L size most i with
  | none => rw [hp] at he; exact .inl ⟨hX hp, he⟩
  | some p =>
    rw [hp] at he
    obtain ⟨v, j⟩ := p
    obtain ⟨h1, h2, _, h4⟩ := numP_le hb hp
    exact .inr ⟨v, j, rfl, he.1, he.2, h4, h1, h2⟩
theorem place_or (X : Prop) (hX : placeP L i = none → X) :
    Calls Tryd.prog 45 #[.pointer (some ⟨g, 0, none⟩)] w fun e w' => w.grownBy w' (some g) ∧ ((X ∧ e = .panicked [{ v := .iface 72 (.agg #[]), recovered := false }]) ∨ ∃ y z j, placeP L i = some ((y, z), j) ∧ e = .returned (.agg #[.int .i64 y, .int .i64 z]) ∧ PB w' g (some ⟨gb, ob, none⟩) c L j ∧ j ≤ L.length) := by
  refine (place_go g gb ob c L i w hw H hi hA hgb hb hc hL hg).mono ?_
  rintro e w' ⟨gr, he⟩
  refine ⟨gr, ?_⟩
  cases hp : placeP L i with
  | none => rw [hp] at he; exact .inl ⟨hX hp, he⟩
  | some p =>
    rw [hp] at he
    obtain ⟨⟨y, z⟩, j⟩ := p
    have hj : j ≤ L.length := by
      unfold placeP at hp
      cases h1 : numP L 2 4095 i with
      | none => rw [h1] at hp; cases hp
      | some q =>
        rw [h1] at hp
        simp only [Option.bind_some, Option.map_eq_some_iff] at hp
        obtain ⟨r, h2, h3⟩ := hp
        injection h3 with _ h3
        subst h3
        exact (numP_le (v := r.1) (j := r.2) hb h2).2.2.2
    exact .inr ⟨y, z, j, rfl, he.1, he.2, hj⟩
omit hb in
theorem take_or (n : Nat) (hn : n ≤ 1099511627776) (X : Prop) (hX : ¬ i + n ≤ L.length → X) :
    Calls Tryd.prog 44 #[.pointer (some ⟨g, 0, none⟩), .int .i64 n] w fun e w' => w.grownBy w' (some g) ∧ ((X ∧ e = .panicked [{ v := .iface 72 (.agg #[]), recovered := false }]) ∨ ∃ o' d, i + n ≤ L.length ∧ e = .returned (.slice (some ⟨gb, o', none⟩) n d) ∧ n ≤ d ∧ BytesAt w' (some ⟨gb, o', none⟩) ((L.drop i).take n) ∧ PB w' g (some ⟨gb, ob, none⟩) c L (i + n)) := by
  by_cases hle : i + n ≤ L.length
  · refine (takeP_yes g gb ob c L i n w hw H hle hc (by omega) hg).mono ?_
    rintro e w' ⟨o', d, rfl, hd, ho', gr, HB⟩
    refine ⟨gr, .inr ⟨o', d, hle, rfl, hd, ?_, HB⟩⟩
    have hA' := hA.grown gr (fun a e => by injection e with e; subst e; intro e; injection e with e; exact hgb e)
    rcases ho' with h0 | h0
    · subst h0; left; simp
    · subst h0; exact hA'.sub i n
  · refine (takeP_no g _ c L i n w hw H hi (by omega) hn (by omega)).mono ?_
    rintro e w' ⟨he, f⟩
    exact ⟨fr_grown f _, .inl ⟨hX hle, he⟩⟩
end

set_option maxHeartbeats 25600000 in
set_option maxRecDepth 100000 in
theorem pobj_go (Q : Ending → World → Prop) (g gb ob c : Nat) (L : List Int) (i : Nat) (w : World) (hw : Ok w) (H : PB w g (some ⟨gb, ob, none⟩) c L i) (hi : i ≤ L.length) (hA : BytesAt w (some ⟨gb, ob, none⟩) L) (hgb : gb ≠ g) (hgl : gb < w.heap.size) (hb : bytesOk L) (hc : L.length ≤ c) (hL : L.length ≤ 1073741824) (hg : 7 ≤ g)
    (HNo : Hid (objP L i = none → ∀ w', w.grownBy w' (some g) → Q (.panicked [{ v := .iface 72 (.agg #[]), recovered := false }]) w'))
    (HYes : Hid (∀ x j w' a d, objP L i = some (x, j) → j ≤ L.length → w.grownBy w' (some g) → PB w' g (some ⟨gb, ob, none⟩) c L j → w'.ownsRow w.heap.size 59 4 (.slice a x.cs.length d) x.cs.length (cflat x.cs) → Q (.returned (.agg ⟨ocells x a d⟩)) w')) :
    Calls Tryd.prog 28 #[.pointer (some ⟨g, 0, none⟩)] w Q := by
  obtain ⟨w2, g2, hg2, hw2, f2, hz2, H2⟩ := boxedN hw #[.int .i64 0, .bool false, .int .i64 0, .int .i64 0, .string ⟨#[]⟩, .int .i64 0, .int .i64 0, .int .u64 0, .int .i64 0, .string ⟨#[]⟩, .int .i64 0, .int .i64 0, .slice none 0 0] 53
  have hlt : g < w.heap.size := (Array.getElem?_eq_some_iff.1 H).1
  have hB2 : w.heap.size ≤ g2 := by omega
  have n2 : some g2 ≠ some g := by simp; omega
  have hgS : ∀ a, (some ⟨gb, ob, none⟩ : Option Addr) = some a → some a.block ≠ some g := fun a e k => by injection e with e; subst e; injection k with k; exact hgb k
  have gr := fr_grown f2 (some g)
  have HR := H.fr f2
  have hIn := Lib.hid (fun (W : World) (gr : w.grownBy W (some g)) (i : Nat) HR hi s m h1 h2 X hX => int_or (i := i) (hw.grown hg gr) HR hi (hA.grown gr hgS) hgb hb hc hL hg s m h1 h2 X hX)
  have hNu := Lib.hid (fun (W : World) (gr : w.grownBy W (some g)) (i : Nat) HR hi s m h1 X hX => num_or (i := i) (hw.grown hg gr) HR hi (hA.grown gr hgS) hgb hb hc hL hg s m h1 X hX)
  have hPl := Lib.hid (fun (W : World) (gr : w.grownBy W (some g)) (i : Nat) HR hi X hX => place_or (i := i) (hw.grown hg gr) HR hi (hA.grown gr hgS) hgb hb hc hL hg X hX)
  have hTk := Lib.hid (fun (W : World) (gr : w.grownBy W (some g)) (i : Nat) HR hi n hn X hX => take_or (i := i) (hw.grown hg gr) HR hi (hA.grown gr hgS) hgb hc hL hg n hn X hX)
  have hRd := Lib.hid (fun (W : World) (gr : w.grownBy W (some g)) o d M hM hd hl hB => nRead_any gb o d M hM hd hl W (hw.grown hg gr) hB (Nat.lt_of_lt_of_le hgl gr.size))
  have hBx := Lib.hid (fun (W : World) (gr : w.grownBy W (some g)) cs t => boxedN (hw.grown hg gr) cs t)
  have HBy := Lib.hid hb
  obtain ⟨iC, hiC, hzC, hsC, hyC⟩ := info_parts infoChunk
  clear f2 H hz2 hA hc hb
  have tok0 : True := trivial
  go_enter Tryd.func28, Tryd.ntmps28
  go_upto_if 15 with (first
    | (go_at_call 27; have _t := tok0; refine (hIn.out _ gr i HR hi 4 1048575 (by omega) (by omega) (objP L i = none) (fun h => by simp only [objP, h, Option.bind_none])).mono ?_; rintro e wa ⟨q, ⟨hx, rfl⟩ | ⟨id, j1, e1, rfl, HRa, hj1, hv0, hv1⟩⟩ <;> replace gr := grown_trans gr q <;> try (replace H2 := grown_blk' q H2 n2; clear q tok0 HR; obtain ⟨w3, g3, hg3, hw3, f3, hz3, H3⟩ := hBx.out _ gr #[.int .i64 id, .bool false, .int .i64 0, .int .i64 0, .string ⟨#[]⟩, .int .i64 0, .int .i64 0, .int .u64 0, .int .i64 0, .string ⟨#[]⟩, .int .i64 0, .int .i64 0, .slice none 0 0] 53; have hB3 : w.heap.size ≤ g3 := (by have := gr.size; omega); have n3 : some g3 ≠ some g := (by simp; omega); have n32 : some g3 ≠ some g2 := (by have := (Array.getElem?_eq_some_iff.1 H2).1; simp; omega); replace gr := grown_fr gr f3; replace H2 := f3.heap H2; have HR := HRa.fr f3; clear f3 hz3 HRa; obtain ⟨c0, c1, c2, c3, c4, c5, c6, c7, c8, c9, c10, c11, c12⟩ := blk13 H3; have z0 := unfroz H3 0; have z1 := unfroz H3 1; have z2 := unfroz H3 2; have z3 := unfroz H3 3; have z4 := unfroz H3 4; have z5 := unfroz H3 5; have z6 := unfroz H3 6; have z7 := unfroz H3 7; have z8 := unfroz H3 8; have z9 := unfroz H3 9; have z10 := unfroz H3 10; have z11 := unfroz H3 11; have z12 := unfroz H3 12; have i1 := idemC H3 c1; have i2 := idemC H3 c2; have i3 := idemC H3 c3; have i4 := idemC H3 c4; have i5 := idemC H3 c5; have i6 := idemC H3 c6; have i7 := idemC H3 c7; have i8 := idemC H3 c8; have i9 := idemC H3 c9; have i10 := idemC H3 c10; have i11 := idemC H3 c11; have i12 := idemC H3 c12; (have E1 := Lib.hid e1); clear e1; have tok1 : True := trivial))
    | (go_at_call 26; have _t := tok1; refine (hNu.out _ gr j1 HR hj1 1 1 (by omega) (objP L i = none) (fun h => by simp only [objP, E1.out, h, Option.bind_some, Option.bind_none])).mono ?_; rintro e wb ⟨q, ⟨hx, rfl⟩ | ⟨h, j2, e2, rfl, HRa, hj2, _, _⟩⟩ <;> replace gr := grown_trans gr q <;> try (replace H2 := grown_blk' q H2 n2; replace H3 := grown_blk' q H3 n3; clear q tok1 HR; clear c0 c1 c2 c3 c4 c5 c6 c7 c8 c9 c10 c11 c12 z0 z1 z2 z3 z4 z5 z6 z7 z8 z9 z10 z11 z12; clear i1 i2 i3 i4 i5 i6 i7 i8 i9 i10 i11 i12; obtain ⟨bv, hbv⟩ : ∃ b, ((h : Int) == 1) = b := ⟨_, rfl⟩; have k1 := (blk13 H3).2.1; have z1 := unfroz H3 1; obtain ⟨wd, hwd, H3d, q⟩ := set_grown H3 1 (.bool bv); simp only [List.setIfInBounds_toArray, List.set_cons_zero, List.set_cons_succ] at H3d; replace gr := grown_new gr q hB3; replace H2 := grown_blk' q H2 n32.symm; have HR := HRa.grown q n3.symm; replace H3 := H3d; have k1 := (blk13 H3).2.1; (have E2 := Lib.hid e2); clear e2 H3d HRa q)))
  all_goals try (exact ⟨rfl, HNo.out hx _ gr⟩)
  have Hbv := Lib.hid hbv
  have HX : Hid (partP L j1 = none → objP L i = none) := Lib.hid (fun hh => by simp only [objP, E1.out, E2.out, Option.bind_some, hh, Option.bind_none])
  go_cut [] (fun wc => ∃ nd pb pp j3, Hid (partP L j1 = some ((nd, pb, pp), j3)) ∧ j3 ≤ L.length ∧ wc.heap[g2]? = some (.cells #[.int .i64 0, .bool false, .int .i64 0, .int .i64 0, .string ⟨#[]⟩, .int .i64 0, .int .i64 0, .int .u64 0, .int .i64 0, .string ⟨#[]⟩, .int .i64 0, .int .i64 0, .slice none 0 0] 53 (0, 0)) ∧ wc.heap[g3]? = some (.cells #[.int .i64 id, .bool bv, .int .i64 nd.ty, .int .i64 nd.par, .string nd.name, .int .i64 nd.size, .int .i64 nd.mode, .int .u64 nd.stamp, .int .i64 nd.shadow, .string nd.tgt, .int .i64 pb, .int .i64 pp, .slice none 0 0] 53 (0, 0)) ∧ w.grownBy wc (some g) ∧ PB wc g (some ⟨gb, ob, none⟩) c L j3)
  case first =>
    clear hbv z1 k1 hwd hw3 hw2
    cases bv with
    | false =>
      have h3 : ¬ h = 1 := by simpa using Hbv.out
      have HPt : Hid (partP L j1 = some ((Nod.zero, 0, 0), j2)) := Lib.hid (by simp only [partP, E2.out, Option.bind_some]; rw [if_neg h3])
      have HF := Lib.hid (And.intro H2 (And.intro H3 (And.intro gr HR)))
      clear H2 H3 gr HR h3
      go_wp2_with fail
      go_meet
      exact ⟨Nod.zero, 0, 0, j2, HPt, hj2, HF.out⟩
    | true =>
      have h3 : h = 1 := by simpa using Hbv.out
      have HPt : Hid (partP L j1 = headP L j2) := Lib.hid (by simp only [partP, E2.out, Option.bind_some]; rw [if_pos h3])
      clear h3
      have tok2 : True := trivial
      go_upto_region 5 with (first
        | (go_at_call 27; have _t := tok2; refine (hIn.out _ gr j2 HR hj2 1 255 (by omega) (by omega) (objP L i = none) (fun hh => HX.out (by rw [HPt.out]; simp only [headP, bodyP, hh, Option.bind_none]))).mono ?_; rintro e wa ⟨q, ⟨hx, rfl⟩ | ⟨v, j21, f1, rfl, HRa, hj21, hv0, hv1⟩⟩ <;> replace gr := grown_trans gr q <;> try (replace H2 := grown_blk' q H2 n2; replace H3 := grown_blk' q H3 n3; clear q HR; have HR := HRa; clear HRa; obtain ⟨kn, hkn⟩ : ∃ kn : Nat, v = (kn : Int) := ⟨_, (Int.toNat_of_nonneg hv0).symm⟩; subst hkn; (have F1 := Lib.hid f1); clear f1))
        | (go_at_call 44; refine (hTk.out _ gr j21 HR hj21 kn (by omega) (objP L i = none) (fun hh => HX.out (by rw [HPt.out]; simp only [headP, bodyP, F1.out, Option.bind_some, Int.toNat_natCast]; rw [if_neg (fun k => hh k.1)]; rfl))).mono ?_; rintro e wb ⟨q, ⟨hx, rfl⟩ | ⟨o', d, hle, rfl, hd, hB, HRa⟩⟩ <;> replace gr := grown_trans gr q <;> try (replace H2 := grown_blk' q H2 n2; replace H3 := grown_blk' q H3 n3; clear q HR; have HR := HRa; clear HRa; (have hlb : ((L.drop j21).take kn).length = kn := (by rw [List.length_take, List.length_drop]; omega)); (have ct := hRd.out _ gr o' d ((L.drop j21).take kn) ((HBy.out.drop j21).take kn) (by rw [hlb]; exact hd) (by rw [hlb]; omega) hB); rw [hlb] at ct; obtain ⟨⟨nd, er⟩, f3⟩ : ∃ p, readNL ((L.drop j21).take kn) = p := ⟨_, rfl⟩; rw [f3] at ct; (have F3 := Lib.hid f3); (have hCt := Lib.hid ct); clear f3 ct hlb hB))
        | (go_at_call 43; refine hCt.out.mono ?_; clear hCt; rintro e wd ⟨rfl, q⟩; replace gr := grown_fr gr q; replace H2 := q.heap H2; replace H3 := q.heap H3; replace HR := HR.fr q; clear q; obtain ⟨w4, g4, hg4, hw4, f4, hz4, H4⟩ := hBx.out _ gr #[.int .i64 nd.ty, .int .i64 nd.par, .string nd.name, .int .i64 nd.size, .int .i64 nd.mode, .int .u64 nd.stamp, .int .i64 nd.shadow, .string nd.tgt] 48; have hB4 : w.heap.size ≤ g4 := (by have := gr.size; omega); have n4 : some g4 ≠ some g := (by simp; omega); have n43 : some g4 ≠ some g3 := (by have := (Array.getElem?_eq_some_iff.1 H3).1; simp; omega); replace gr := grown_fr gr f4; replace H2 := f4.heap H2; replace H3 := f4.heap H3; replace HR := HR.fr f4; clear f4 hz4))
      all_goals try (exact ⟨rfl, HNo.out hx _ gr⟩)
      by_cases her : er = 0
      · have HBd : Hid (bodyP L j2 = some (nd, j21 + kn)) := Lib.hid (by simp only [bodyP, F1.out, Option.bind_some, Int.toNat_natCast, F3.out]; rw [if_pos ⟨hle, her⟩])
        have d1 : ((er : Int) == 0) = true := by simpa using her
        clear her
        go_upto_region 6 with (go_at_call 29; refine (must_yes _).mono ?_; rintro e wx ⟨rfl, rfl⟩)
        clear d1
        obtain ⟨m0, m1, m2, m3, m4, m5, m6, m7⟩ := blk8 H4
        obtain ⟨c0, c1, c2, c3, c4, c5, c6, c7, c8, c9, c10, c11, c12⟩ := blk13 H3
        have z0 := unfroz H3 0; have z1 := unfroz H3 1; have z2 := unfroz H3 2; have z3 := unfroz H3 3; have z4 := unfroz H3 4; have z5 := unfroz H3 5; have z6 := unfroz H3 6; have z7 := unfroz H3 7; have z8 := unfroz H3 8; have z9 := unfroz H3 9; have z10 := unfroz H3 10; have z11 := unfroz H3 11; have z12 := unfroz H3 12
        obtain ⟨w5, hw5, q5, H35⟩ := set8at H3 (.int .i64 nd.ty) (.int .i64 nd.par) (.string nd.name) (.int .i64 nd.size) (.int .i64 nd.mode) (.int .u64 nd.stamp) (.int .i64 nd.shadow) (.string nd.tgt)
        replace gr := grown_new gr q5 hB3
        replace H2 := grown_blk' q5 H2 n32.symm
        replace HR := HR.grown q5 n3.symm
        replace H3 := H35
        clear q5 H35 H4
        go_wp2_with (go_at_call 45; refine (hPl.out _ gr _ HR hle (objP L i = none) (fun hh => HX.out (by rw [HPt.out]; simp only [headP, HBd.out, Option.bind_some, hh, Option.map_none]))).mono ?_; rintro e w6 ⟨q, ⟨hx, rfl⟩ | ⟨pb, pp, j3, f5, rfl, HRa, hj3⟩⟩ <;> replace gr := grown_trans gr q <;> try (replace H2 := grown_blk' q H2 n2; replace H3 := grown_blk' q H3 n3; clear q HR; clear c0 c1 c2 c3 c4 c5 c6 c7 c8 c9 c10 c11 c12 z0 z1 z2 z3 z4 z5 z6 z7 z8 z9 z10 z11 z12; obtain ⟨c0, c1, c2, c3, c4, c5, c6, c7, c8, c9, c10, c11, c12⟩ := blk13 H3; have z0 := unfroz H3 0; have z1 := unfroz H3 1; have z2 := unfroz H3 2; have z3 := unfroz H3 3; have z4 := unfroz H3 4; have z5 := unfroz H3 5; have z6 := unfroz H3 6; have z7 := unfroz H3 7; have z8 := unfroz H3 8; have z9 := unfroz H3 9; have z10 := unfroz H3 10; have z11 := unfroz H3 11; have z12 := unfroz H3 12; obtain ⟨w7, hw7, q7, H37⟩ := set2at H3 (.int .i64 pb) (.int .i64 pp); replace gr := grown_new gr q7 hB3; replace H2 := grown_blk' q7 H2 n32.symm; have HR := HRa.grown q7 n3.symm; replace H3 := H37; (have HPj : Hid (partP L j1 = some ((nd, pb, pp), j3)) := Lib.hid (by rw [HPt.out]; simp only [headP, HBd.out, Option.bind_some, f5, Option.map_some])); (have HF := Lib.hid (And.intro H2 (And.intro H3 (And.intro gr HR)))); clear q7 H37 HRa H2 H3 gr HR f5))
        all_goals try (exact ⟨rfl, HNo.out hx _ gr⟩)
        go_meet
        exact ⟨nd, pb, pp, j3, HPj, hj3, HF.out⟩
      · have hx : Hid (objP L i = none) := Lib.hid (HX.out (by rw [HPt.out]; simp only [headP, bodyP, F1.out, Option.bind_some, Int.toNat_natCast, F3.out]; rw [if_neg (fun k => her k.2)]; rfl))
        have d1 : ((er : Int) == 0) = false := by simpa using her
        have gr' := Lib.hid gr
        clear her gr
        go_wp2_with (go_at_call 29; refine (must_no _).mono ?_; rintro e wx ⟨he, rfl⟩; unfold gaveUp at he; subst he)
        exact ⟨rfl, HNo.out hx.out _ gr'.out⟩
  case rest =>
    obtain ⟨nd, pb, pp, j3, E3, hj3, H2, H3, gr, HR⟩ := hcut
    clear hbv z1 k1 hwd hw3 hw2
    go_upto_block 0 with (go_at_call 27; refine (hIn.out _ gr j3 HR hj3 4 65536 (by omega) (by omega) (objP L i = none) (fun hh => by simp only [objP, E1.out, E2.out, E3.out, Option.bind_some, hh, Option.bind_none])).mono ?_; rintro e wd ⟨q, ⟨hx, rfl⟩ | ⟨n, j4, e4, rfl, HRa, hj4, hn0, hn1⟩⟩ <;> replace gr := grown_trans gr q <;> try (replace H2 := grown_blk' q H2 n2; replace H3 := grown_blk' q H3 n3; clear q HR; obtain ⟨N, hN⟩ : ∃ N : Nat, n = (N : Int) := ⟨_, (Int.toNat_of_nonneg hn0).symm⟩; subst hN; (have E4 := Lib.hid e4); clear e4))
    all_goals try (exact ⟨rfl, HNo.out hx _ gr⟩)
    have HO : Hid (objP L i = (listP (chunkP L) N j4).map fun cs => (⟨id, bv, nd, pb, pp, cs.1⟩, cs.2)) := Lib.hid (by
      have hb : decide (h = 1) = bv := Hbv.out
      simp only [objP, E1.out, E2.out, E3.out, E4.out, Option.bind_some, Int.toNat_natCast, hb])
    go_wp2_with fail
    go_loopg [34] N (fun k v34 wc => ∃ (ii : Nat) (done : List Chk) (a : Option Addr) (d : Nat) (jj : Nat), ii + k = N ∧ done.length = ii ∧ jj ≤ L.length ∧ v34 = .int .i64 (ii : Int) ∧ Hid (listP (chunkP L) N j4 = (listP (chunkP L) k jj).map fun r => (done ++ r.1, r.2)) ∧
      Hid (wc.heap[g2]? = some (.cells #[.int .i64 0, .bool false, .int .i64 0, .int .i64 0, .string ⟨#[]⟩, .int .i64 0, .int .i64 0, .int .u64 0, .int .i64 0, .string ⟨#[]⟩, .int .i64 0, .int .i64 0, .slice none 0 0] 53 (0, 0))) ∧ Hid (wc.heap[g3]? = some (.cells #[.int .i64 id, .bool bv, .int .i64 nd.ty, .int .i64 nd.par, .string nd.name, .int .i64 nd.size, .int .i64 nd.mode, .int .u64 nd.stamp, .int .i64 nd.shadow, .string nd.tgt, .int .i64 pb, .int .i64 pp, .slice a ii d] 53 (0, 0))) ∧
      Hid (w.grownBy wc (some g)) ∧ Hid (PB wc g (some ⟨gb, ob, none⟩) c L jj) ∧ Hid (wc.ownsRow w.heap.size 59 4 (.slice a ii d) ii (cflat done)))
    case atStart => exact ⟨0, [], none, 0, j4, by omega, rfl, hj4, rfl, Lib.hid (by cases listP (chunkP L) N j4 <;> simp), Lib.hid H2, Lib.hid H3, Lib.hid gr, Lib.hid HRa, Lib.hid ⟨by simp [cflat], .inl ⟨rfl, rfl⟩⟩⟩
    case round =>
      clear H2 H3 gr HRa
      obtain ⟨ii, done, a, d, jj, hik, hdl, hjj, rfl, HL, H2, H3, gr, HR, O⟩ := hrel
      replace H2 := H2.out
      replace H3 := H3.out
      replace gr := gr.out
      replace HR := HR.out
      replace O := O.out
      have HD := Lib.hid hdl
      clear hdl
      cases gk with
      | zero =>
        have HOb : Hid (objP L i = some (⟨id, bv, nd, pb, pp, done⟩, jj)) := Lib.hid (by rw [HO.out, HL.out]; simp [listP])
        obtain ⟨w9, hw9, q9, H29⟩ := set13 H2 (.int .i64 id) (.bool bv) (.int .i64 nd.ty) (.int .i64 nd.par) (.string nd.name) (.int .i64 nd.size) (.int .i64 nd.mode) (.int .u64 nd.stamp) (.int .i64 nd.shadow) (.string nd.tgt) (.int .i64 pb) (.int .i64 pp) (.slice a ii d)
        have HF := Lib.hid (And.intro (grown_new gr q9 hB2) (And.intro (HR.grown q9 n2.symm) (own_grown O q9 H2 (by decide))))
        have H29' := Lib.hid H29
        have z0 := unfroz H2 0; have z1 := unfroz H2 1; have z2 := unfroz H2 2; have z3 := unfroz H2 3; have z4 := unfroz H2 4; have z5 := unfroz H2 5; have z6 := unfroz H2 6; have z7 := unfroz H2 7; have z8 := unfroz H2 8; have z9 := unfroz H2 9; have z10 := unfroz H2 10; have z11 := unfroz H2 11; have z12 := unfroz H2 12
        obtain ⟨y0, y1, y2, y3, y4, y5, y6, y7, y8, y9, y10, y11, y12⟩ := blk13 H3
        obtain ⟨c0, c1, c2, c3, c4, c5, c6, c7, c8, c9, c10, c11, c12⟩ := blk13 H2
        clear HR q9 H29 O gr H2 H3 HL
        have d1 : decide ((ii : Int) < (N : Int)) = false := decide_eq_false (by omega)
        go_wp2
        refine bodyPost_ret (results_cell_row rfl _ _ g2 53 _ (0, 0) _ rfl H29'.out Tryd.underlying53 rfl (by kernel_rfl)) rfl ?_
        have hd' := HD.out
        subst hd'
        exact HYes.out _ _ _ a d HOb.out hjj HF.out.1 HF.out.2.1 HF.out.2.2
      | succ k =>
        have d1 : decide ((ii : Int) < (N : Int)) = true := decide_eq_true (by omega)
        have hob : Hid (∀ q, (Value.slice a ii d).ownBlock = some q → q < wr.heap.size) := Lib.hid (fun q hq => (World.ownsRow.lt O q hq).2)
        have HXc : Hid (chunkP L jj = none → objP L i = none) := Lib.hid (fun hh => by rw [HO.out, HL.out]; simp only [listP, hh, Option.bind_none, Option.map_none])
        have hsw := gr.size
        have tok3 : True := trivial
        go_wp2_with (first
          | (go_at_call 27; have _t := tok3; refine (hIn.out _ gr jj HR hjj 4 1048575 (by omega) (by omega) (objP L i = none) (fun hh => HXc.out (by simp only [chunkP, hh, Option.bind_none]))).mono ?_; rintro e wa ⟨q, ⟨hx, rfl⟩ | ⟨x, p1, b1, rfl, HRa, hp1, _, _⟩⟩ <;> replace gr := grown_trans gr q <;> try (have hsz := q.size; replace O := own_keep O q (fun k hk e => by subst e; exact own_ne3 O HR (by decide) hk.symm); replace H2 := grown_blk' q H2 n2; replace H3 := grown_blk' q H3 n3; clear q tok3 HR; obtain ⟨w8, g8, hg8, hw8, f8, hz8, H8⟩ := hBx.out _ gr #[.int .i64 x, .int .i64 0, .int .i64 0, .int .i64 0] 59; have hB8 : w.heap.size ≤ g8 := (by omega); have hB8' : wr.heap.size ≤ g8 := (by omega); have n8 : some g8 ≠ some g := (by simp; omega); have n82 : some g8 ≠ some g2 := (by have := (Array.getElem?_eq_some_iff.1 H2).1; simp; omega); have n83 : some g8 ≠ some g3 := (by have := (Array.getElem?_eq_some_iff.1 H3).1; simp; omega); replace gr := grown_fr gr f8; replace H2 := f8.heap H2; replace H3 := f8.heap H3; replace O := own_fr O f8; have HR := HRa.fr f8; clear f8 hz8 HRa hsz; obtain ⟨k0, k1, k2, k3⟩ := blk4 H8; have z1 := unfroz H8 1; have z2 := unfroz H8 2; have z3 := unfroz H8 3; have i1 := idemC H8 k1; have i2 := idemC H8 k2; have i3 := idemC H8 k3; (have B1 := Lib.hid b1); clear b1; have tok4 : True := trivial))
          | (go_at_call 45; refine (hPl.out _ gr p1 HR hp1 (objP L i = none) (fun hh => HXc.out (by simp only [chunkP, B1.out, Option.bind_some, hh, Option.bind_none]))).mono ?_; rintro e wb ⟨q, ⟨hx, rfl⟩ | ⟨y, z, p2, b2, rfl, HRa, hp2⟩⟩ <;> replace gr := grown_trans gr q <;> try (replace O := own_keep O q (fun k hk e => by subst e; exact own_ne3 O HR (by decide) hk.symm); replace H2 := grown_blk' q H2 n2; replace H3 := grown_blk' q H3 n3; replace H8 := grown_blk' q H8 n8; clear q HR k0 k1 k2 k3 z1 z2 z3 i1 i2 i3; obtain ⟨k0, k1, k2, k3⟩ := blk4 H8; have z1 := unfroz H8 1; have z2 := unfroz H8 2; obtain ⟨w9, hw9, q9, H89⟩ := set2of4 H8 (.int .i64 y) (.int .i64 z); replace gr := grown_new gr q9 hB8; replace O := own_keep O q9 (fun k hk => by have := hob.out k hk; omega); replace H2 := grown_blk' q9 H2 n82.symm; replace H3 := grown_blk' q9 H3 n83.symm; have HR := HRa.grown q9 n8.symm; replace H8 := H89; (have B2 := Lib.hid b2); clear q9 H89 HRa b2))
          | (go_at_call 27; have _t := tok4; refine (hIn.out _ gr p2 HR hp2 2 2048 (by omega) (by omega) (objP L i = none) (fun hh => HXc.out (by simp only [chunkP, B1.out, B2.out, Option.bind_some, hh, Option.map_none]))).mono ?_; rintro e wd ⟨q, ⟨hx, rfl⟩ | ⟨u, p3, b3, rfl, HRa, hp3, _, _⟩⟩ <;> replace gr := grown_trans gr q <;> try (replace O := own_keep O q (fun k hk e => by subst e; exact own_ne3 O HR (by decide) hk.symm); replace H2 := grown_blk' q H2 n2; replace H3 := grown_blk' q H3 n3; replace H8 := grown_blk' q H8 n8; clear q HR k0 k1 k2 k3 z1 z2; have j3 := (blk4 H8).2.2.2; have z3 := unfroz H8 3; obtain ⟨w10, hw10, q10, H80⟩ := set1of4 H8 (.int .i64 u); replace gr := grown_new gr q10 hB8; replace O := own_keep O q10 (fun k hk => by have := hob.out k hk; omega); replace H2 := grown_blk' q10 H2 n82.symm; replace H3 := grown_blk' q10 H3 n83.symm; have HR := HRa.grown q10 n8.symm; replace H8 := H80; clear q10 H80 HRa; obtain ⟨k0, k1, k2, k3⟩ := blk4 H8; have k12 := (blk13 H3).2.2.2.2.2.2.2.2.2.2.2.2; obtain ⟨w11, g11, hg11, hw11, f11, hz11, H11⟩ := hBx.out _ gr #[.int .i64 x, .int .i64 y, .int .i64 z, .int .i64 u] 59; replace gr := grown_fr gr f11; replace H2 := f11.heap H2; replace H3 := f11.heap H3; replace O := own_fr O f11; replace HR := HR.fr f11; clear f11; obtain ⟨v12, w12, hap, O12, q12, _⟩ := append_src Tryd.underlying51 hiC hzC hsC hyC rfl (by decide) 51 O (some ⟨g11, 0, none⟩) 1 1 _ (Src.lit H11 1 1) (by simp) (by simp [Value.oneCell']) (by unfold maxLen; omega) (by omega) gr.size; have m2 := own_ne3 O H2 (by decide); have m3 := own_ne3 O H3 (by decide); have mR := own_ne3 O HR (by decide); replace H2 := grown_blk' q12 H2 m2; replace H3 := grown_blk' q12 H3 m3; replace HR := HR.grown q12 mR; replace gr := grown_own gr q12 (fun k hk => (World.ownsRow.lt O k hk).1); clear O H11 m2 m3 mR q12; obtain ⟨a2, d2, rfl⟩ := own_form O12; have z12 := unfroz H3 12; have y12 := (blk13 H3).2.2.2.2.2.2.2.2.2.2.2.2; obtain ⟨w13, hw13, H313, q13⟩ := set_grown H3 12 (.slice a2 (ii + 1) d2); simp only [List.setIfInBounds_toArray, List.set_cons_zero, List.set_cons_succ] at H313; replace O12 := own_grown O12 q13 H3 (by decide); replace gr := grown_new gr q13 hB3; replace H2 := grown_blk' q13 H2 n32.symm; replace HR := HR.grown q13 n3.symm; (have HL2 : Hid (listP (chunkP L) N j4 = (listP (chunkP L) k p3).map fun r => ((done ++ [(⟨x, y, z, u⟩ : Chk)]) ++ r.1, r.2)) := Lib.hid (by rw [HL.out]; simp only [listP, chunkP, B1.out, B2.out, b3, Option.bind_some, Option.map_some]; cases listP (chunkP L) k p3 <;> simp)); (have HF := Lib.hid (And.intro H2 (And.intro H313 (And.intro gr (And.intro HR O12))))); clear H2 H3 H313 gr HR O12 q13 b3))
          | (at_builtin; refine wpList_append_run rfl _ _ 51 51 rfl (by simp [Act.eval]) (by simp [Act.eval]) hap ?_))
        all_goals try (exact ⟨rfl, HNo.out hx _ gr⟩)
        go_roundg k
        case measure => omega
        case rel => exact ⟨ii + 1, done ++ [⟨x, y, z, u⟩], a2, d2, p3, by omega, by rw [List.length_append, HD.out]; rfl, hp3, by simp, HL2, Lib.hid HF.out.1, Lib.hid HF.out.2.1, Lib.hid HF.out.2.2.1, Lib.hid HF.out.2.2.2.1, Lib.hid (by rw [cflat_snoc]; exact HF.out.2.2.2.2)⟩
end Go.Proofs.YtefkklgelmbaiaaDoor
set_option linter.unusedSimpArgs false
set_option linter.unusedVariables false
namespace Go.Proofs.YtefkklgelmbaiaaDoor.Reg
open Go Go.RowKit Go.Sort
theorem wpMainT_enter {P : Program} {ops : Array Oper} {S : World → Prop} {D : Nat} {Q : Exit → Act → World → Prop} {k : Nat} {rest : List Nat} {o : Oper} {fn : FuncId} {args : Array Value} {a : Act} {w : World} {R : Ending → World → Prop} (ho : ops[k]? = some o) (hw : Region.wanted o (yielded ops a.tmps) = true)
    (hr : (execOp a.eval o).run P w = .ok (.enter fn args) w) (hc : Calls P fn args w R) (h : ∀ e w', R e w' → ∃ v, e = .returned v ∧ (k = D ∨ S w') ∧ wpMainT P ops Q S D rest (a.put o.dst v) w') : wpMainT P ops Q S D (k :: rest) a w := by
  unfold wpMainT wpOp
  simp only [ho, hw, if_true]
  left
  unfold Oper.wp
  rw [hr, Oper.upon_enter]
  refine hc.mono fun e w' hR => ?_
  obtain ⟨v, rfl, hS, h'⟩ := h e w' hR
  exact ⟨hS, h'⟩
end Go.Proofs.YtefkklgelmbaiaaDoor.Reg
namespace Go.Proofs.YtefkklgelmbaiaaDoor
open Go.RowKit Go.Proofs

theorem robj14_any (g : Nat) (A : Option Addr) (c : Nat) (L : List Int) (o : Option Nat) (w : World) (hw : Ok w) (H : RR w g A c L o) (hA : BytesAt w A L) (hgb : ∀ a, A = some a → a.block ≠ g) (hb : bytesOk L) (hc : L.length ≤ c) (hL : L.length ≤ 1073741824) (hg : 7 ≤ g) :
    Calls Tryd.prog 24 #[.pointer (some ⟨g, 0, none⟩)] w fun e w' => ∃ a d, e = Ending.returned (.agg ⟨ocells (objR L o).1 a d⟩) ∧ w.grownBy w' (some g) ∧ RR w' g A c L (objR L o).2 ∧ w'.ownsRow w.heap.size 59 4 (.slice a (objR L o).1.cs.length d) (objR L o).1.cs.length (cflat (objR L o).1.cs) :=
  robj14_go _ g A c L o w hw H hA hgb hb hc hL hg (Lib.hid fun _ _ h => h)
/-- a state that a call tells, with its error -/
def OutS (w : World) (s : St) (er : Int) (e : Ending) (w' : World) : Prop := ∃ a1 c1 a2 c2 bl, e = .returned (.tuple #[.agg #[.int .u64 s.floor, .int .u64 s.next, .int .i64 s.cur, .int .i64 s.last, .slice a1 s.bs.length c1, .slice a2 s.os.length c2], .int .i64 er]) ∧ Fr w w' ∧ BRow w' a1 s.bs ∧ ORow w' a2 bl s.os
theorem OutS.zero {w w' : World} (f : Fr w w') (er : Int) : OutS w St.zero er (.returned (.tuple #[.agg #[.int .u64 0, .int .u64 0, .int .i64 0, .int .i64 0, .slice none 0 0, .slice none 0 0], .int .i64 er])) w' :=
  ⟨none, 0, none, 0, fun _ => (none, 0), rfl, f, .inl rfl, .inl rfl, fun i o h => by simp [St.zero] at h⟩
theorem bflat_snoc (bs : List Blk) (x : Blk) : bflat (bs ++ [x]) = bflat bs ++ bcells x := by unfold bflat; simp
section
variable {w : World} {g : Nat} {t : TypeId} {o0 o1 o2 o3 : Value}
theorem setat4 (H : w.heap[g]? = some (.cells #[o0, o1, o2, o3] t (0, 0))) (j : Nat) (v : Value) :
    ∃ w', w.setCell ⟨g, j, none⟩ v = w' ∧ w.grownBy w' (some g) ∧ w'.heap[g]? = some (.cells ((#[o0, o1, o2, o3] : Array Value).setIfInBounds j v) t (0, 0)) :=
  ⟨_, rfl, sets_grown (grown_refl w _) j v, set_last H j v⟩
end

theorem set6all {w : World} {g : Nat} {t : TypeId} {o0 o1 o2 o3 o4 o5 : Value} (H : w.heap[g]? = some (.cells #[o0, o1, o2, o3, o4, o5] t (0, 0))) (v0 v1 v2 v3 v4 v5 : Value) :
    ∃ w', ((((((w.setCell ⟨g, 0, none⟩ v0).setCell ⟨g, 1, none⟩ v1).setCell ⟨g, 2, none⟩ v2).setCell ⟨g, 3, none⟩ v3).setCell ⟨g, 4, none⟩ v4).setCell ⟨g, 5, none⟩ v5) = w' ∧ w.grownBy w' (some g) ∧ w'.heap[g]? = some (.cells #[v0, v1, v2, v3, v4, v5] t (0, 0)) := by
  have h := set_last (set_last (set_last (set_last (set_last (set_last H 0 v0) 1 v1) 2 v2) 3 v3) 4 v4) 5 v5
  simp only [List.setIfInBounds_toArray, List.set_cons_zero, List.set_cons_succ] at h
  exact ⟨_, rfl, sets_grown (sets_grown (sets_grown (sets_grown (sets_grown (sets_grown (grown_refl w _) 0 v0) 1 v1) 2 v2) 3 v3) 4 v4) 5 v5, h⟩
/-- how a reading ends -/
def outR (s : St) (n : Nat) : Option Nat → St × Int
  | none => (St.zero, 140)
  | some j => if j = n ∧ mayB s = true then (s, 0) else (St.zero, 140)
theorem readR_out {L : List Int} {s : St} {o : Option Nat} (h : stR L = (s, o)) : readR L = outR s L.length o := by
  unfold readR
  rw [h]
  cases o <;> rfl

set_option maxHeartbeats 25600000 in
set_option maxRecDepth 100000 in
theorem read14_go (Q : Ending → World → Prop) (A : Option Addr) (c : Nat) (L : List Int) (w : World) (hw : Ok w) (hA : BytesAt w A L) (hb : bytesOk L) (hc : L.length ≤ c) (hL : L.length ≤ 1073741824) (hg : 7 ≤ w.heap.size)
    (HP : Hid (∀ e w', OutS w (readR L).1 (readR L).2 e w' → Q e w')) :
    Calls Tryd.prog 11 #[.slice A L.length c] w Q := by
  have hst := st_rg hb hL
  obtain ⟨⟨fl, o1⟩, e1⟩ : ∃ p, numR L 8 281474976710655 (some 0) = p := ⟨_, rfl⟩
  obtain ⟨⟨nx, o2⟩, e2⟩ : ∃ p, numR L 8 281474976710656 o1 = p := ⟨_, rfl⟩
  obtain ⟨⟨cu, o3⟩, e3⟩ : ∃ p, numR L 4 4096 o2 = p := ⟨_, rfl⟩
  obtain ⟨⟨la, o4⟩, e4⟩ : ∃ p, numR L 4 4096 o3 = p := ⟨_, rfl⟩
  obtain ⟨⟨n, o5⟩, e5⟩ : ∃ p, numR L 4 4096 o4 = p := ⟨_, rfl⟩
  have r1 := numR_le hb (show (0 : Int) ≤ 281474976710655 by omega) 8 (some 0)
  have r2 := numR_le hb (show (0 : Int) ≤ 281474976710656 by omega) 8 o1
  have r3 := numR_le hb (show (0 : Int) ≤ 4096 by omega) 4 o2
  have r4 := numR_le hb (show (0 : Int) ≤ 4096 by omega) 4 o3
  have r5 := numR_le hb (show (0 : Int) ≤ 4096 by omega) 4 o4
  rw [e1] at r1; rw [e2] at r2; rw [e3] at r3; rw [e4] at r4; rw [e5] at r5
  dsimp only at r1 r2 r3 r4 r5
  obtain ⟨N, hN⟩ : ∃ N : Nat, n = (N : Int) := ⟨_, (Int.toNat_of_nonneg r5.1).symm⟩
  subst hN
  obtain ⟨⟨bs, o6⟩, e6⟩ : ∃ p, listR (blockR L) N o5 = p := ⟨_, rfl⟩
  obtain ⟨⟨m, o7⟩, e7⟩ : ∃ p, numR L 4 1048575 o6 = p := ⟨_, rfl⟩
  have r7 := numR_le hb (show (0 : Int) ≤ 1048575 by omega) 4 o6
  rw [e7] at r7
  dsimp only at r7
  obtain ⟨M, hM⟩ : ∃ M : Nat, m = (M : Int) := ⟨_, (Int.toNat_of_nonneg r7.1).symm⟩
  subst hM
  obtain ⟨⟨os, o8⟩, e8⟩ : ∃ p, listR (objR L) M o7 = p := ⟨_, rfl⟩
  have hs : stR L = (⟨fl, nx, cu - 1, la - 1, bs, os⟩, o8) := by simp only [stR, e1, e2, e3, e4, e5, e6, e7, e8, Int.toNat_natCast]
  have hrr := readR_out hs
  rw [hs] at hst
  rw [hrr] at HP
  have HST := Lib.hid hst
  have HBn := Lib.hid (fun o => numR_le hb (show (0 : Int) ≤ 281474976710655 by omega) 6 o)
  have HBy := Lib.hid hb
  have hML : Hid (0 < M → L ≠ []) := Lib.hid (fun h0 hn => by
    subst hn
    have := numR_nil (L := []) rfl (show 1 ≤ 4 by omega) 4096 o4
    rw [e5] at this
    dsimp only at this
    subst this
    have h6 := e6
    rw [listR_none] at h6
    injection h6 with _ h6
    subst h6
    have h7 := e7
    simp only [numR] at h7
    injection h7 with h7 _
    omega)
  have E1 := Lib.hid e1
  have E2 := Lib.hid e2
  have E3 := Lib.hid e3
  have E4 := Lib.hid e4
  have E5 := Lib.hid e5
  have E6 := Lib.hid e6
  have E7 := Lib.hid e7
  have E8 := Lib.hid e8
  clear hst hrr hs e1 e2 e3 e4 e5 e6 e7 e8
  obtain ⟨iB, hiB, hzB, hsB, hyB⟩ := info_parts infoBlock
  obtain ⟨iO, hiO, hzO, hsO, hyO⟩ := info_parts infoObject
  obtain ⟨w2, g2, hg2, hw2, f2, hz2, H2⟩ := boxedN hw #[.int .u64 0, .int .u64 0, .int .i64 0, .int .i64 0, .slice none 0 0, .slice none 0 0] 26
  obtain ⟨w4, g4, hg4, hw4, f4, hz4, H4⟩ := boxedN f2.ok #[.slice A L.length c, .int .i64 0, .bool true] 68
  have s2 := f2.size
  have hB2 : w.heap.size ≤ g2 := by omega
  have hB4 : w.heap.size ≤ g4 := by omega
  have n24 : some g2 ≠ some g4 := by simp; omega
  have f := f2.trans f4
  replace H2 := f4.heap H2
  have HR : RR w4 g4 A c L (some 0) := ⟨0, Nat.zero_le _, fun j e => by injection e, H4⟩
  have hAb : L ≠ [] → ∀ a, A = some a → a.block ≠ g4 := by
    intro h0 a e
    rcases hA with h | ⟨g', o', e', hlt, _⟩
    · exact absurd h h0
    · rw [e] at e'; injection e' with e'; subst e'; dsimp only; omega
  have hNu : Hid (∀ W, Fr w W → ∀ o, RR W g4 A c L o → ∀ s m, 1 ≤ s ∧ s ≤ 8 → 0 ≤ m ∧ m ≤ 281474976710656 → Calls Tryd.prog 23 #[.pointer (some ⟨g4, 0, none⟩), .int .i64 ((s : Nat) : Int), .int .u64 m] W fun e w' => e = .returned (.int .i64 (numR L s m o).1) ∧ Fr w w' ∧ W.grownBy w' (some g4) ∧ RR w' g4 A c L (numR L s m o).2) := Lib.hid (fun W f o HR s m h1 h2 => by
    by_cases h0 : L = []
    · subst h0
      exact (number_nil g4 A c o s m W f.ok HR h1 h2).mono fun e w' ⟨h3, q, h4⟩ => ⟨h3, row_own f hw q hB4, q, h4⟩
    · exact (number_any g4 A c L o s m W f.ok HR (hA.fr f) (hAb h0) HBy.out h1 h2 hc hL (by omega)).mono fun e w' ⟨h3, q, h4⟩ => ⟨h3, row_own f hw q hB4, q, h4⟩)
  have hOb := Lib.hid (fun (h0 : L ≠ []) (W : World) (f : Fr w W) o (HR : RR W g4 A c L o) => robj14_any g4 A c L o W f.ok HR (hA.fr f) (hAb h0) HBy.out hc hL (by omega))
  have hMy := Lib.hid (fun (W : World) (f : Fr w W) a1 c1 a2 c2 bl h1 h2 => may_any ⟨fl, nx, cu - 1, la - 1, bs, os⟩ a1 c1 a2 c2 bl W f.ok h1 h2 HST.out.1)
  have hMyB : Hid (mayB ⟨fl, nx, cu - 1, la - 1, bs, os⟩ = mayB ⟨fl, nx, cu - 1, la - 1, bs, os⟩) := Lib.hid rfl
  have x1 : IntKind.u64.wrap fl = fl := u64_in ⟨by omega, by omega⟩
  have x2 : IntKind.u64.wrap nx = nx := u64_in ⟨by omega, by omega⟩
  clear hA hAb hb H4 f2 f4 s2 hz2 hz4 HBy hc
  have tok0 : True := trivial
  go_enter Tryd.func11, Tryd.ntmps11
  go_upto_block 0 with (first
    | (go_at_call 23; have _t := tok0; (have ct := hNu.out _ f _ HR 8 281474976710655 (by omega) (by omega)); rw [E1.out] at ct; refine ct.mono ?_; clear ct; rintro e wa ⟨rfl, fa, q, HRa⟩; replace H2 := grown_blk' q H2 n24; clear q tok0 HR; obtain ⟨w5, g5, hg5, hw5, f5, hz5, H5⟩ := boxedN fa.ok #[.int .u64 fl, .int .u64 0, .int .i64 0, .int .i64 0, .slice none 0 0, .slice none 0 0] 26; have hB5 : w.heap.size ≤ g5 := (by have := fa.size; omega); have n54 : some g5 ≠ some g4 := (by obtain ⟨_, _, _, h⟩ := HRa; have := (Array.getElem?_eq_some_iff.1 h).1; simp; omega); have n52 : some g5 ≠ some g2 := (by have := (Array.getElem?_eq_some_iff.1 H2).1; simp; omega); replace H2 := f5.heap H2; have HR := HRa.fr f5; replace f := fa.trans f5; clear fa f5 hz5 HRa; obtain ⟨c0, c1, c2, c3, c4, c5⟩ := blk6 H5; have z0 := unfroz H5 0; have z1 := unfroz H5 1; have z2 := unfroz H5 2; have z3 := unfroz H5 3; have z4 := unfroz H5 4; have z5 := unfroz H5 5; have i1 := idemC H5 c1; have i2 := idemC H5 c2; have i3 := idemC H5 c3; have i4 := idemC H5 c4; have i5 := idemC H5 c5; have tok1 : True := trivial)
    | (go_at_call 23; have _t := tok1; (have ct := hNu.out _ f _ HR 8 281474976710656 (by omega) (by omega)); rw [E2.out] at ct; refine ct.mono ?_; clear ct; rintro e wa ⟨rfl, fa, q, HRa⟩; replace H2 := grown_blk' q H2 n24; replace H5 := grown_blk' q H5 n54; replace f := fa; clear q tok1 HR fa c0 c1 c2 c3 c4 c5 z0 z1 z2 z3 z4 z5 i1 i2 i3 i4 i5; have HR := HRa; clear HRa; obtain ⟨c0, c1, c2, c3, c4, c5⟩ := blk6 H5; have z0 := unfroz H5 0; have z1 := unfroz H5 1; have z2 := unfroz H5 2; have z3 := unfroz H5 3; have z4 := unfroz H5 4; have z5 := unfroz H5 5; obtain ⟨ws, hws, H5s, fs, q⟩ := set_own f hw hB5 H5 1 (.int .u64 nx); simp only [List.setIfInBounds_toArray, List.set_cons_zero, List.set_cons_succ] at H5s; replace H2 := grown_blk' q H2 n52.symm; replace HR := HR.grown q n54.symm; replace H5 := H5s; replace f := fs; clear H5s fs q; have tok2 : True := trivial)
    | (go_at_call 23; have _t := tok2; (have ct := hNu.out _ f _ HR 4 4096 (by omega) (by omega)); rw [E3.out] at ct; refine ct.mono ?_; clear ct; rintro e wa ⟨rfl, fa, q, HRa⟩; replace H2 := grown_blk' q H2 n24; replace H5 := grown_blk' q H5 n54; replace f := fa; clear q tok2 HR fa c0 c1 c2 c3 c4 c5 z0 z1 z2 z3 z4 z5 hws; have HR := HRa; clear HRa; obtain ⟨c0, c1, c2, c3, c4, c5⟩ := blk6 H5; have z0 := unfroz H5 0; have z1 := unfroz H5 1; have z2 := unfroz H5 2; have z3 := unfroz H5 3; have z4 := unfroz H5 4; have z5 := unfroz H5 5; obtain ⟨ws, hws, H5s, fs, q⟩ := set_own f hw hB5 H5 2 (.int .i64 (cu - 1)); simp only [List.setIfInBounds_toArray, List.set_cons_zero, List.set_cons_succ] at H5s; replace H2 := grown_blk' q H2 n52.symm; replace HR := HR.grown q n54.symm; replace H5 := H5s; replace f := fs; clear H5s fs q; have tok3 : True := trivial)
    | (go_at_call 23; have _t := tok3; (have ct := hNu.out _ f _ HR 4 4096 (by omega) (by omega)); rw [E4.out] at ct; refine ct.mono ?_; clear ct; rintro e wa ⟨rfl, fa, q, HRa⟩; replace H2 := grown_blk' q H2 n24; replace H5 := grown_blk' q H5 n54; replace f := fa; clear q tok3 HR fa c0 c1 c2 c3 c4 c5 z0 z1 z2 z3 z4 z5 hws; have HR := HRa; clear HRa; obtain ⟨c0, c1, c2, c3, c4, c5⟩ := blk6 H5; have z0 := unfroz H5 0; have z1 := unfroz H5 1; have z2 := unfroz H5 2; have z3 := unfroz H5 3; have z4 := unfroz H5 4; have z5 := unfroz H5 5; obtain ⟨ws, hws, H5s, fs, q⟩ := set_own f hw hB5 H5 3 (.int .i64 (la - 1)); simp only [List.setIfInBounds_toArray, List.set_cons_zero, List.set_cons_succ] at H5s; replace H2 := grown_blk' q H2 n52.symm; replace HR := HR.grown q n54.symm; replace H5 := H5s; replace f := fs; clear H5s fs q; have tok4 : True := trivial)
    | (go_at_call 23; have _t := tok4; (have ct := hNu.out _ f _ HR 4 4096 (by omega) (by omega)); rw [E5.out] at ct; refine ct.mono ?_; clear ct; rintro e wa ⟨rfl, fa, q, HRa⟩; replace H2 := grown_blk' q H2 n24; replace H5 := grown_blk' q H5 n54; replace f := fa; clear q tok4 HR fa c0 c1 c2 c3 c4 c5 z0 z1 z2 z3 z4 z5 hws; have HR := HRa; clear HRa))
  clear hw2 hw4 hw5 x1 x2
  go_cut [] (fun wc => ∃ a d, wc.heap[g2]? = some (.cells #[.int .u64 0, .int .u64 0, .int .i64 0, .int .i64 0, .slice none 0 0, .slice none 0 0] 26 (0, 0)) ∧ wc.heap[g5]? = some (.cells #[.int .u64 fl, .int .u64 nx, .int .i64 (cu - 1), .int .i64 (la - 1), .slice a bs.length d, .slice none 0 0] 26 (0, 0)) ∧ Fr w wc ∧ RR wc g4 A c L o6 ∧ wc.ownsRow w.heap.size 45 4 (.slice a bs.length d) bs.length (bflat bs))
  case first =>
    go_wp2_with fail
    go_loopg [7] N (fun k v7 wc => ∃ (i : Nat) (done : List Blk) (a : Option Addr) (d : Nat) (oi : Option Nat), i + k = N ∧ done.length = i ∧ v7 = .int .i64 (i : Int) ∧ Hid (listR (blockR L) N o5 = (done ++ (listR (blockR L) k oi).1, (listR (blockR L) k oi).2)) ∧
      Hid (wc.heap[g2]? = some (.cells #[.int .u64 0, .int .u64 0, .int .i64 0, .int .i64 0, .slice none 0 0, .slice none 0 0] 26 (0, 0))) ∧ Hid (wc.heap[g5]? = some (.cells #[.int .u64 fl, .int .u64 nx, .int .i64 (cu - 1), .int .i64 (la - 1), .slice a i d, .slice none 0 0] 26 (0, 0))) ∧
      Hid (Fr w wc) ∧ Hid (RR wc g4 A c L oi) ∧ Hid (wc.ownsRow w.heap.size 45 4 (.slice a i d) i (bflat done)))
    case atStart => exact ⟨0, [], none, 0, o5, by omega, rfl, rfl, Lib.hid (by simp), Lib.hid H2, Lib.hid H5, Lib.hid f, Lib.hid HR, Lib.hid ⟨by simp [bflat], .inl ⟨rfl, rfl⟩⟩⟩
    case round =>
      clear H2 H5 f HR
      obtain ⟨i, done, a, d, oi, hik, hdl, rfl, HL, H2, H5, f, HR, O⟩ := hrel
      replace H2 := H2.out
      replace H5 := H5.out
      replace f := f.out
      replace HR := HR.out
      replace O := O.out
      have HD := Lib.hid hdl
      clear hdl
      by_cases hend : gk = 0 ∨ oi = none
      · have hl : (listR (blockR L) gk oi) = ([], oi) := by
          rcases hend with h0 | h0
          · subst h0; rfl
          · subst h0; exact listR_none _ _
        have hl2 := HL.out
        rw [hl, E6.out] at hl2
        simp only [List.append_nil, Prod.mk.injEq] at hl2
        have HC := Lib.hid hl2
        clear hl hl2 HL
        have HF := Lib.hid (And.intro H2 (And.intro H5 (And.intro f (And.intro HR O))))
        obtain ⟨j, hj, hoj, HB⟩ := HR
        unfold RB at HB
        obtain ⟨r0, r1, r2⟩ := blk3 HB
        clear HB O f H2 H5 hoj
        rcases hend with h0 | h0
        · subst h0
          have d1 : decide ((i : Int) < (N : Int)) = false := decide_eq_false (by omega)
          go_wp2_with fail
          go_meet
          obtain ⟨hc1, hc2⟩ := HC.out
          subst hc1 hc2
          exact ⟨a, d, HF.out.1, by rw [HD.out]; exact HF.out.2.1, HF.out.2.2.1, HF.out.2.2.2.1, by rw [HD.out]; exact HF.out.2.2.2.2⟩
        · subst h0
          simp only [Option.isSome_none] at r2
          by_cases hlt2 : i < N
          · have d1 : decide ((i : Int) < (N : Int)) = true := decide_eq_true (by omega)
            go_wp2_with fail
            go_meet
            obtain ⟨hc1, hc2⟩ := HC.out
            subst hc1 hc2
            exact ⟨a, d, HF.out.1, by rw [HD.out]; exact HF.out.2.1, HF.out.2.2.1, HF.out.2.2.2.1, by rw [HD.out]; exact HF.out.2.2.2.2⟩
          · have d1 : decide ((i : Int) < (N : Int)) = false := decide_eq_false (by omega)
            go_wp2_with fail
            go_meet
            obtain ⟨hc1, hc2⟩ := HC.out
            subst hc1 hc2
            exact ⟨a, d, HF.out.1, by rw [HD.out]; exact HF.out.2.1, HF.out.2.2.1, HF.out.2.2.2.1, by rw [HD.out]; exact HF.out.2.2.2.2⟩
      · obtain ⟨k, rfl⟩ : ∃ k, gk = k + 1 := ⟨gk - 1, by omega⟩
        obtain ⟨jj, rfl⟩ : ∃ jj, oi = some jj := by cases oi with
          | none => exact absurd (.inr rfl) hend
          | some jj => exact ⟨jj, rfl⟩
        clear hend
        obtain ⟨⟨st, p1⟩, b1⟩ : ∃ p, numR L 1 6 (some jj) = p := ⟨_, rfl⟩
        obtain ⟨⟨hd, p2⟩, b2⟩ : ∃ p, numR L 6 281474976710655 p1 = p := ⟨_, rfl⟩
        obtain ⟨⟨r, p3⟩, b3⟩ : ∃ p, numR L 1 1 p2 = p := ⟨_, rfl⟩
        obtain ⟨⟨lv, p4⟩, b4⟩ : ∃ p, numR L 2 256 p3 = p := ⟨_, rfl⟩
        have hrg := HBn.out p1
        rw [b2] at hrg
        dsimp only at hrg
        obtain ⟨rb, hrb⟩ : ∃ b, ((r : Int) == 1) = b := ⟨_, rfl⟩
        have hch : blockR L (some jj) = (⟨st, hd, rb, lv⟩, p4) := by rw [← hrb]; simp only [blockR, b1, b2, b3, b4]; rfl
        have HL2 : Hid (listR (blockR L) N o5 = ((done ++ [(⟨st, hd, rb, lv⟩ : Blk)]) ++ (listR (blockR L) k p4).1, (listR (blockR L) k p4).2)) := Lib.hid (by rw [HL.out]; simp only [listR, hch, List.append_assoc, List.singleton_append])
        have B1 := Lib.hid b1
        have B2 := Lib.hid b2
        have B3 := Lib.hid b3
        have B4 := Lib.hid b4
        clear b1 b2 b3 b4 hch HL
        have xh : IntKind.u64.wrap hd = hd := u64_in ⟨by omega, by omega⟩
        have d1 : decide ((i : Int) < (N : Int)) = true := decide_eq_true (by omega)
        have hob : Hid (∀ q, (Value.slice a i d).ownBlock = some q → q < wr.heap.size) := Lib.hid (fun q hq => (World.ownsRow.lt O q hq).2)
        have r2 : wr.cell? ⟨g4, 2, none⟩ = some (.bool true) := by
          obtain ⟨j, hj, hoj, HB⟩ := HR
          exact (blk3 HB).2.2
        have tok5 : True := trivial
        go_wp2_with (first
          | (go_at_call 23; have _t := tok5; (have ct := hNu.out _ f _ HR 1 6 (by omega) (by omega)); rw [B1.out] at ct; refine ct.mono ?_; clear ct; rintro e wa ⟨rfl, fa, q, HRa⟩; have hsz := q.size; replace O := own_keep O q (fun k hk e => by subst e; exact rb_ne HR O (by decide) hk.symm); replace H2 := grown_blk' q H2 n24; replace H5 := grown_blk' q H5 n54; clear q tok5 HR r2; obtain ⟨w8, g8, hg8, hw8, f8, hz8, H8⟩ := boxedN fa.ok #[.int .i64 st, .int .u64 0, .bool false, .int .i64 0] 45; have hB8 : w.heap.size ≤ g8 := (by have := f.size; omega); have hB8' : wr.heap.size ≤ g8 := (by omega); have n84 : some g8 ≠ some g4 := (by obtain ⟨_, _, _, h⟩ := HRa; have := (Array.getElem?_eq_some_iff.1 h).1; simp; omega); have n82 : some g8 ≠ some g2 := (by have := (Array.getElem?_eq_some_iff.1 H2).1; simp; omega); have n85 : some g8 ≠ some g5 := (by have := (Array.getElem?_eq_some_iff.1 H5).1; simp; omega); replace H2 := f8.heap H2; replace H5 := f8.heap H5; replace O := own_fr O f8; have HR := HRa.fr f8; clear f; have f := fa.trans f8; clear f8 hz8 HRa hsz fa; obtain ⟨k0, k1, k2, k3⟩ := blk4 H8; have z1 := unfroz H8 1; have z2 := unfroz H8 2; have z3 := unfroz H8 3; have i1 := idemC H8 k1; have i2 := idemC H8 k2; have i3 := idemC H8 k3; have tok6 : True := trivial)
          | (go_at_call 23; have _t := tok6; (have ct := hNu.out _ f _ HR 6 281474976710655 (by omega) (by omega)); rw [B2.out] at ct; refine ct.mono ?_; clear ct; rintro e wa ⟨rfl, fa, q, HRa⟩; replace O := own_keep O q (fun k hk e => by subst e; exact rb_ne HR O (by decide) hk.symm); replace H2 := grown_blk' q H2 n24; replace H5 := grown_blk' q H5 n54; replace H8 := grown_blk' q H8 n84; clear q tok6 HR k0 k1 k2 k3 z1 z2 z3 i1 i2 i3 f; obtain ⟨k0, k1, k2, k3⟩ := blk4 H8; have z1 := unfroz H8 1; obtain ⟨w9, hw9, q9, H89⟩ := setat4 H8 1 (.int .u64 hd); simp only [List.setIfInBounds_toArray, List.set_cons_zero, List.set_cons_succ] at H89; have f := row_own fa hw q9 hB8; replace O := own_keep O q9 (fun k hk => by have := hob.out k hk; omega); replace H2 := grown_blk' q9 H2 n82.symm; replace H5 := grown_blk' q9 H5 n85.symm; have HR := HRa.grown q9 n84.symm; replace H8 := H89; clear q9 H89 HRa fa; have tok7 : True := trivial)
          | (go_at_call 23; have _t := tok7; (have ct := hNu.out _ f _ HR 1 1 (by omega) (by omega)); rw [B3.out] at ct; refine ct.mono ?_; clear ct; rintro e wa ⟨rfl, fa, q, HRa⟩; replace O := own_keep O q (fun k hk e => by subst e; exact rb_ne HR O (by decide) hk.symm); replace H2 := grown_blk' q H2 n24; replace H5 := grown_blk' q H5 n54; replace H8 := grown_blk' q H8 n84; clear q tok7 HR k0 k1 k2 k3 z1 f; obtain ⟨k0, k1, k2, k3⟩ := blk4 H8; have z2 := unfroz H8 2; obtain ⟨w10, hw10, q9, H89⟩ := setat4 H8 2 (.bool rb); simp only [List.setIfInBounds_toArray, List.set_cons_zero, List.set_cons_succ] at H89; have f := row_own fa hw q9 hB8; replace O := own_keep O q9 (fun k hk => by have := hob.out k hk; omega); replace H2 := grown_blk' q9 H2 n82.symm; replace H5 := grown_blk' q9 H5 n85.symm; have HR := HRa.grown q9 n84.symm; replace H8 := H89; clear q9 H89 HRa fa; have tok8 : True := trivial)
          | (go_at_call 23; have _t := tok8; (have ct := hNu.out _ f _ HR 2 256 (by omega) (by omega)); rw [B4.out] at ct; refine ct.mono ?_; clear ct; rintro e wa ⟨rfl, fa, q, HRa⟩; replace O := own_keep O q (fun k hk e => by subst e; exact rb_ne HR O (by decide) hk.symm); replace H2 := grown_blk' q H2 n24; replace H5 := grown_blk' q H5 n54; replace H8 := grown_blk' q H8 n84; clear q tok8 HR k0 k1 k2 k3 z2 f; have j3 := (blk4 H8).2.2.2; have z3 := unfroz H8 3; obtain ⟨w11, hw11, q9, H89⟩ := setat4 H8 3 (.int .i64 lv); simp only [List.setIfInBounds_toArray, List.set_cons_zero, List.set_cons_succ] at H89; have f := row_own fa hw q9 hB8; replace O := own_keep O q9 (fun k hk => by have := hob.out k hk; omega); replace H2 := grown_blk' q9 H2 n82.symm; replace H5 := grown_blk' q9 H5 n85.symm; have HR := HRa.grown q9 n84.symm; replace H8 := H89; clear q9 H89 HRa fa; obtain ⟨k0, k1, k2, k3⟩ := blk4 H8; have s4 := (blk6 H5).2.2.2.2.1; obtain ⟨w12, g12, hg12, hw12, f12, hz12, H12⟩ := boxedN f.ok #[.int .i64 st, .int .u64 hd, .bool rb, .int .i64 lv] 45; replace H2 := f12.heap H2; replace H5 := f12.heap H5; replace O := own_fr O f12; replace HR := HR.fr f12; replace f := f.trans f12; clear f12; obtain ⟨v13, w13, hap, O13, q13, _⟩ := append_src Tryd.underlying23 hiB hzB hsB hyB rfl (by decide) 23 O (some ⟨g12, 0, none⟩) 1 1 _ (Src.lit H12 1 1) (by simp) (by simp [Value.oneCell']) (by unfold maxLen; omega) (by omega) f.size; have m2 := own_ne3 O H2 (by decide); have m5 := own_ne3 O H5 (by decide); have mR := rb_ne HR O (by decide); replace H2 := grown_blk' q13 H2 m2; replace H5 := grown_blk' q13 H5 m5; replace HR := HR.grown q13 mR; replace f := f.row hw q13 (fun k hk => (World.ownsRow.lt O k hk).1); clear O H12 m2 m5 mR q13; obtain ⟨a2, d2, rfl⟩ := own_form O13; have zz4 := unfroz H5 4; have y4 := (blk6 H5).2.2.2.2.1; obtain ⟨w14, hw14, H514, f14, q14⟩ := set_own f hw hB5 H5 4 (.slice a2 (i + 1) d2); simp only [List.setIfInBounds_toArray, List.set_cons_zero, List.set_cons_succ] at H514; replace O13 := own_grown O13 q14 H5 (by decide); replace H2 := grown_blk' q14 H2 n52.symm; replace HR := HR.grown q14 n54.symm; (have HF := Lib.hid (And.intro H2 (And.intro H514 (And.intro f14 (And.intro HR O13))))); clear H2 H5 H514 f f14 HR O13 q14)
          | (at_builtin; refine wpList_append_run rfl _ _ 23 23 rfl (by simp [Act.eval]) (by simp [Act.eval]) hap ?_))
        go_roundg k
        case measure => omega
        case rel => exact ⟨i + 1, done ++ [⟨st, hd, rb, lv⟩], a2, d2, p4, by omega, by rw [List.length_append, HD.out]; rfl, by simp, HL2, Lib.hid HF.out.1, Lib.hid HF.out.2.1, Lib.hid HF.out.2.2.1, Lib.hid HF.out.2.2.2.1, Lib.hid (by rw [bflat_snoc]; exact HF.out.2.2.2.2)⟩
  case rest =>
    obtain ⟨a4, d4, H2, H5, f, HR, O4⟩ := hcut
    have tok9 : True := trivial
    go_upto_block 2 with (go_at_call 23; have _t := tok9; (have ct := hNu.out _ f _ HR 4 1048575 (by omega) (by omega)); rw [E7.out] at ct; refine ct.mono ?_; clear ct; rintro e wa ⟨rfl, fa, q, HRa⟩; replace O4 := own_keep O4 q (fun k hk e => by subst e; exact rb_ne HR O4 (by decide) hk.symm); replace H2 := grown_blk' q H2 n24; replace H5 := grown_blk' q H5 n54; clear f; have f := fa; clear q tok9 HR fa; have HR := HRa; clear HRa)
    go_cut [] (fun wc => ∃ a d bl, wc.heap[g2]? = some (.cells #[.int .u64 0, .int .u64 0, .int .i64 0, .int .i64 0, .slice none 0 0, .slice none 0 0] 26 (0, 0)) ∧ wc.heap[g5]? = some (.cells #[.int .u64 fl, .int .u64 nx, .int .i64 (cu - 1), .int .i64 (la - 1), .slice a4 bs.length d4, .slice a os.length d] 26 (0, 0)) ∧ Fr w wc ∧ RR wc g4 A c L o8 ∧ wc.ownsRow w.heap.size 45 4 (.slice a4 bs.length d4) bs.length (bflat bs) ∧ wc.ownsRow w.heap.size 53 13 (.slice a os.length d) os.length (orow os bl os.length).flatten ∧ CO wc w.heap.size os bl)
    case first =>
      go_wp2_with fail
      go_loopg [9] M (fun k v9 wc => ∃ (i : Nat) (done : List Obj') (a : Option Addr) (d : Nat) (bl : Al) (oi : Option Nat), i + k = M ∧ done.length = i ∧ v9 = .int .i64 (i : Int) ∧ Hid (listR (objR L) M o7 = (done ++ (listR (objR L) k oi).1, (listR (objR L) k oi).2)) ∧
        Hid (wc.heap[g2]? = some (.cells #[.int .u64 0, .int .u64 0, .int .i64 0, .int .i64 0, .slice none 0 0, .slice none 0 0] 26 (0, 0))) ∧ Hid (wc.heap[g5]? = some (.cells #[.int .u64 fl, .int .u64 nx, .int .i64 (cu - 1), .int .i64 (la - 1), .slice a4 bs.length d4, .slice a i d] 26 (0, 0))) ∧
        Hid (Fr w wc) ∧ Hid (RR wc g4 A c L oi) ∧ Hid (wc.ownsRow w.heap.size 45 4 (.slice a4 bs.length d4) bs.length (bflat bs)) ∧ Hid (wc.ownsRow w.heap.size 53 13 (.slice a i d) i (orow done bl i).flatten) ∧ Hid (CO wc w.heap.size done bl))
      case atStart => exact ⟨0, [], none, 0, fun _ => (none, 0), o7, by omega, rfl, rfl, Lib.hid (by simp), Lib.hid H2, Lib.hid H5, Lib.hid f, Lib.hid HR, Lib.hid O4, Lib.hid ⟨by simp [orow], .inl ⟨rfl, rfl⟩⟩, Lib.hid (fun j hj => by simp at hj)⟩
      case round =>
        clear H2 H5 f HR O4
        obtain ⟨i, done, a, d, bl, oi, hik, hdl, rfl, HL, H2, H5, f, HR, O4, O, OC⟩ := hrel
        replace H2 := H2.out
        replace H5 := H5.out
        replace f := f.out
        replace HR := HR.out
        replace O4 := O4.out
        replace O := O.out
        replace OC := OC.out
        have HD := Lib.hid hdl
        clear hdl
        by_cases hend : gk = 0 ∨ oi = none
        · have hl : (listR (objR L) gk oi) = ([], oi) := by
            rcases hend with h0 | h0
            · subst h0; rfl
            · subst h0; exact listR_none _ _
          have hl2 := HL.out
          rw [hl, E8.out] at hl2
          simp only [List.append_nil, Prod.mk.injEq] at hl2
          have HC := Lib.hid hl2
          clear hl hl2 HL
          have HF := Lib.hid (And.intro H2 (And.intro H5 (And.intro f (And.intro HR (And.intro O4 (And.intro O OC))))))
          obtain ⟨j, hj, hoj, HB⟩ := HR
          unfold RB at HB
          obtain ⟨r0, r1, r2⟩ := blk3 HB
          clear HB O f H2 H5 hoj O4 OC
          have hfin : os = done ∧ o8 = oi := HC.out
          have HFI := Lib.hid hfin
          clear hfin HC
          rcases hend with h0 | h0
          · subst h0
            have d1 : decide ((i : Int) < (M : Int)) = false := decide_eq_false (by omega)
            go_wp2_with fail
            go_meet
            obtain ⟨hc1, hc2⟩ := HFI.out
            subst hc1 hc2
            have hd' := HD.out
            subst hd'
            exact ⟨a, d, bl, HF.out⟩
          · subst h0
            simp only [Option.isSome_none] at r2
            by_cases hlt2 : i < M
            · have d1 : decide ((i : Int) < (M : Int)) = true := decide_eq_true (by omega)
              go_wp2_with fail
              go_meet
              obtain ⟨hc1, hc2⟩ := HFI.out
              subst hc1 hc2
              have hd' := HD.out
              subst hd'
              exact ⟨a, d, bl, HF.out⟩
            · have d1 : decide ((i : Int) < (M : Int)) = false := decide_eq_false (by omega)
              go_wp2_with fail
              go_meet
              obtain ⟨hc1, hc2⟩ := HFI.out
              subst hc1 hc2
              have hd' := HD.out
              subst hd'
              exact ⟨a, d, bl, HF.out⟩
        · obtain ⟨k, rfl⟩ : ∃ k, gk = k + 1 := ⟨gk - 1, by omega⟩
          obtain ⟨jj, rfl⟩ : ∃ jj, oi = some jj := by cases oi with
            | none => exact absurd (.inr rfl) hend
            | some jj => exact ⟨jj, rfl⟩
          clear hend
          obtain ⟨⟨x, p1⟩, b1⟩ : ∃ p, objR L (some jj) = p := ⟨_, rfl⟩
          have HL2 : Hid (listR (objR L) M o7 = ((done ++ [x]) ++ (listR (objR L) k p1).1, (listR (objR L) k p1).2)) := Lib.hid (by rw [HL.out]; simp only [listR, b1, List.append_assoc, List.singleton_append])
          have d1 : decide ((i : Int) < (M : Int)) = true := decide_eq_true (by omega)
          have r2 : wr.cell? ⟨g4, 2, none⟩ = some (.bool true) := by
            obtain ⟨j, hj, hoj, HB⟩ := HR
            exact (blk3 HB).2.2
          have qd := (Fr.refl f.ok).drew
          have hcall : Calls Tryd.prog 24 #[.pointer (some ⟨g4, 0, none⟩)] wr.drew fun e w' => ∃ a3 d3, e = Ending.returned (.agg #[.int .i64 x.id, .bool x.head, .int .i64 x.nd.ty, .int .i64 x.nd.par, .string x.nd.name, .int .i64 x.nd.size, .int .i64 x.nd.mode, .int .u64 x.nd.stamp, .int .i64 x.nd.shadow, .string x.nd.tgt, .int .i64 x.pb, .int .i64 x.pp, .slice a3 x.cs.length d3]) ∧ wr.drew.grownBy w' (some g4) ∧ RR w' g4 A c L p1 ∧ w'.ownsRow wr.drew.heap.size 59 4 (.slice a3 x.cs.length d3) x.cs.length (cflat x.cs) := by
            have ct := hOb.out (hML.out (by omega)) wr.drew (f.trans qd) (some jj) (HR.fr qd)
            rw [b1] at ct
            exact ct
          have HCL := Lib.hid hcall
          clear hcall b1 HL
          go_upto_block 3 with (fail)
          go_cut [] (fun wc => ∃ a2 d2 bl2, Hid (wc.heap[g2]? = some (.cells #[.int .u64 0, .int .u64 0, .int .i64 0, .int .i64 0, .slice none 0 0, .slice none 0 0] 26 (0, 0))) ∧ Hid (wc.heap[g5]? = some (.cells #[.int .u64 fl, .int .u64 nx, .int .i64 (cu - 1), .int .i64 (la - 1), .slice a4 bs.length d4, .slice a2 (i + 1) d2] 26 (0, 0))) ∧
            Hid (Fr w wc) ∧ Hid (RR wc g4 A c L p1) ∧ Hid (wc.ownsRow w.heap.size 45 4 (.slice a4 bs.length d4) bs.length (bflat bs)) ∧ Hid (wc.ownsRow w.heap.size 53 13 (.slice a2 (i + 1) d2) (i + 1) (orow (done ++ [x]) bl2 (i + 1)).flatten) ∧ Hid (CO wc w.heap.size (done ++ [x]) bl2))
          case first =>
            go_upto_region 19 with (fail)
            have s5 := (blk6 (qd.heap H5)).2.2.2.2.2
            refine Reg.wp_region_late (fun w' => w'.cell? ⟨g5, 5, none⟩ = some (.slice a i d)) 7 [0, 1, 2] [3, 4, 5, 6, 7] (by kernel_rfl) (by kernel_rfl) s5 ?_
            iterate 3
              refine Reg.wpLateT_step (v := ?_) rfl ?_ (fun w' hS => ?_) ?_
              rotate_left
              · simp [Region.wanted]
              · go_simp
                try (first | rfl | exact ⟨rfl, rfl⟩)
            refine Reg.wpMainT_enter (fn := 24) (args := #[.pointer (some ⟨g4, 0, none⟩)]) rfl (by simp [Region.wanted]) ?_ HCL.out ?_
            · go_simp
              try (first | rfl | exact ⟨rfl, rfl⟩)
            rintro e wx ⟨a3, d3, rfl, q, HRx, Ox⟩
            have fx := row_own (f.trans qd) hw q hB4
            replace H2 := grown_blk' q (qd.heap H2) n24
            replace H5 := grown_blk' q (qd.heap H5) n54
            have hRd := HR.fr qd
            replace O4 := own_keep (own_fr O4 qd) q (fun k hk e => by subst e; exact rb_ne hRd (own_fr O4 qd) (by decide) hk.symm)
            replace O := own_keep (own_fr O qd) q (fun k hk e => by subst e; exact rb_ne hRd (own_fr O qd) (by decide) hk.symm)
            replace OC : CO wx w.heap.size done bl := fun j hj => own_keep (own_fr (OC j hj) qd) q (fun k hk e => by subst e; exact rb_ne hRd (own_fr (OC j hj) qd) (by decide) hk.symm)
            replace Ox := own_low Ox (show w.heap.size ≤ wr.drew.heap.size from (f.trans qd).size)
            have s18 := (blk6 H5).2.2.2.2.2
            refine ⟨_, rfl, .inr s18, ?_⟩
            obtain ⟨w18, g18, hg18, hw18, f18, hz18, H18⟩ := boxedN fx.ok #[.int .i64 x.id, .bool x.head, .int .i64 x.nd.ty, .int .i64 x.nd.par, .string x.nd.name, .int .i64 x.nd.size, .int .i64 x.nd.mode, .int .u64 x.nd.stamp, .int .i64 x.nd.shadow, .string x.nd.tgt, .int .i64 x.pb, .int .i64 x.pp, .slice a3 x.cs.length d3] 53
            replace H2 := f18.heap H2
            replace H5 := f18.heap H5
            replace O4 := own_fr O4 f18
            replace O := own_fr O f18
            replace OC := OC.fr f18
            replace Ox := own_fr Ox f18
            replace HRx := HRx.fr f18
            have f19 := fx.trans f18
            have s19 := (blk6 H5).2.2.2.2.2
            obtain ⟨v19, w19, hap, O19, q19, _⟩ := append_src Tryd.underlying24 hiO hzO hsO hyO rfl (by decide) 24 O (some ⟨g18, 0, none⟩) 1 1 _ (Src.lit H18 1 1) (by simp) (by simp [Value.oneCell']) (by unfold maxLen; omega) (by omega) f19.size
            have m2 := own_ne3 O H2 (by decide)
            have m5 := own_ne3 O H5 (by decide)
            have mR := rb_ne HRx O (by decide)
            replace H2 := grown_blk' q19 H2 m2
            replace H5 := grown_blk' q19 H5 m5
            replace HRx := HRx.grown q19 mR
            replace O4 := World.ownsRow.kept O4 q19 (own_ne2 O4 O (by decide))
            replace OC := OC.own q19 O (by decide)
            replace Ox := World.ownsRow.kept Ox q19 (own_ne2 Ox O (by decide))
            have f20 := f19.row hw q19 (fun k hk => (World.ownsRow.lt O k hk).1)
            obtain ⟨a2, d2, rfl⟩ := own_form O19
            have s20 := (blk6 H5).2.2.2.2.2
            have z20 := unfroz H5 5
            obtain ⟨w21, hw21, H521, f21, q21⟩ := set_own f20 hw hB5 H5 5 (.slice a2 (i + 1) d2)
            simp only [List.setIfInBounds_toArray, List.set_cons_zero, List.set_cons_succ] at H521
            refine Reg.wpMainT_run (v := (.slice (some ⟨g18, 0, none⟩) 1 1)) (w' := w18) rfl (by simp [Region.wanted]) ?_ (.inr s19) ?_
            · go_simp
              try (first | rfl | exact ⟨rfl, rfl⟩)
            refine Reg.wpMainT_append rfl rfl _ _ 24 24 rfl (by simp [Act.eval, Act.put]; try rfl) (by simp [Act.eval, Act.put]; try rfl) hap (.inr s20) ?_
            refine Reg.wpMainT_run (v := (.pointer (some ⟨g5, 5, none⟩))) (w' := w19) rfl (by simp [Region.wanted]) ?_ (.inr s20) ?_
            · go_simp
              try (first | rfl | exact ⟨rfl, rfl⟩)
            refine Reg.wpMainT_skip (w' := w21) rfl (by simp [Region.wanted]) ?_ (.inl rfl) ?_
            · go_simp
              try (first | rfl | exact ⟨rfl, rfl⟩)
            refine Reg.wpMainT_nil ?_
            have hsn : (orow (done ++ [x]) (upd bl done.length a3 d3) (i + 1)).flatten = (orow done bl i).flatten ++ ocells x a3 d3 := by
              rw [← HD.out, orow_snoc, List.flatten_append]; simp
            have HF : Hid (Hid (w21.heap[g2]? = some (.cells #[.int .u64 0, .int .u64 0, .int .i64 0, .int .i64 0, .slice none 0 0, .slice none 0 0] 26 (0, 0))) ∧ Hid (w21.heap[g5]? = some (.cells #[.int .u64 fl, .int .u64 nx, .int .i64 (cu - 1), .int .i64 (la - 1), .slice a4 bs.length d4, .slice a2 (i + 1) d2] 26 (0, 0))) ∧
                Hid (Fr w w21) ∧ Hid (RR w21 g4 A c L p1) ∧ Hid (w21.ownsRow w.heap.size 45 4 (.slice a4 bs.length d4) bs.length (bflat bs)) ∧ Hid (w21.ownsRow w.heap.size 53 13 (.slice a2 (i + 1) d2) (i + 1) (orow (done ++ [x]) (upd bl done.length a3 d3) (i + 1)).flatten) ∧ Hid (CO w21 w.heap.size (done ++ [x]) (upd bl done.length a3 d3))) :=
              Lib.hid ⟨Lib.hid (grown_blk' q21 H2 n52.symm), Lib.hid H521, Lib.hid f21, Lib.hid (HRx.grown q21 n54.symm), Lib.hid (own_grown O4 q21 H5 (by decide)), Lib.hid (by rw [hsn]; exact own_grown O19 q21 H5 (by decide)), Lib.hid ((OC.grown q21 H5 (by decide)).snoc (own_grown Ox q21 H5 (by decide)))⟩
            go_wp2_with fail
            go_meet
            exact ⟨_, _, _, HF.out⟩
          case rest =>
            obtain ⟨a2, d2, bl2, F1, F2, F3, F4, F5, F6, F7⟩ := hcut
            clear H2 H5 f HR O4 O OC r2 d1 qd HCL
            go_wp2
            go_roundg k
            case measure => omega
            case rel => exact ⟨i + 1, done ++ [x], a2, d2, bl2, p1, by omega, by rw [List.length_append, HD.out]; rfl, by simp, HL2, F1, F2, F3, F4, F5, F6, F7⟩
    case rest =>
      clear H2 H5 f HR O4
      obtain ⟨a5, d5, bl, H2, H5, f, HR, O4, O5, OC⟩ := hcut
      have HZ : Hid (∀ w', Fr w w' → OutS w St.zero 140 (.returned (.tuple #[.agg #[.int .u64 0, .int .u64 0, .int .i64 0, .int .i64 0, .slice none 0 0, .slice none 0 0], .int .i64 140])) w') := Lib.hid (fun w' f => OutS.zero f 140)
      have hB := own_BRow O4
      have hO := own_ORow O5 OC
      obtain ⟨c0, c1, c2, c3, c4, c5⟩ := blk6 H2
      have z0 := unfroz H2 0; have z1 := unfroz H2 1; have z2 := unfroz H2 2; have z3 := unfroz H2 3; have z4 := unfroz H2 4; have z5 := unfroz H2 5
      have i0 := idemC H2 c0
      have i1 := idemC H2 c1
      have i2 := idemC H2 c2
      have i3 := idemC H2 c3
      have i4 := idemC H2 c4
      have i5 := idemC H2 c5
      cases o8 with
      | none =>
        obtain ⟨j, hj, hoj, HB⟩ := HR
        unfold RB at HB
        obtain ⟨r0, r1, r2⟩ := blk3 HB
        simp only [Option.isSome_none] at r2
        have H2' := Lib.hid H2
        have f' := Lib.hid f
        clear HB hoj H5 O4 O5 OC hB hO f H2
        go_wp2
        refine bodyPost_ret (results_row_tmp rfl _ _ g2 26 _ (0, 0) _ rfl H2'.out Tryd.underlying26 rfl (by kernel_rfl)) rfl ?_
        exact HP.out _ _ (HZ.out _ f'.out)
      | some jj =>
        obtain ⟨j, hj, hoj, HB⟩ := HR
        obtain rfl := hoj jj rfl
        unfold RB at HB
        obtain ⟨r0, r1, r2⟩ := blk3 HB
        simp only [Option.isSome_some] at r2
        by_cases hlen : j < L.length
        · have d2 : decide ((j : Int) < (L.length : Int)) = true := decide_eq_true (by omega)
          have hz : outR ⟨fl, nx, cu - 1, la - 1, bs, os⟩ L.length (some j) = (St.zero, 140) := by simp only [outR]; rw [if_neg (fun h => by have := h.1; omega)]
          rw [hz] at HP
          have H2' := Lib.hid H2
          have f' := Lib.hid f
          clear HB hoj H5 O4 O5 OC hB hO f H2 hz
          go_wp2
          refine bodyPost_ret (results_row_tmp rfl _ _ g2 26 _ (0, 0) _ rfl H2'.out Tryd.underlying26 rfl (by kernel_rfl)) rfl ?_
          exact HP.out _ _ (HZ.out _ f'.out)
        · have hje : j = L.length := by omega
          have d2 : decide ((j : Int) < (L.length : Int)) = false := decide_eq_false (by omega)
          obtain ⟨mb, hmb⟩ : ∃ mb, mayB ⟨fl, nx, cu - 1, la - 1, bs, os⟩ = mb := ⟨_, rfl⟩
          have hM := hMy.out _ f a4 d4 a5 d5 bl hB hO
          rw [hmb] at hM
          have hM' := Lib.hid hM
          obtain ⟨y0, y1, y2, y3, y4, y5⟩ := blk6 H5
          clear hM HB hoj
          cases mb with
          | false =>
            have hz : outR ⟨fl, nx, cu - 1, la - 1, bs, os⟩ L.length (some j) = (St.zero, 140) := by simp only [outR]; rw [if_neg (fun h => by rw [hmb] at h; cases h.2)]
            rw [hz] at HP
            clear hmb hz O4 O5 OC hB hO
            go_wp2_with (go_at_call 14; refine hM'.out.mono ?_; rintro e wx ⟨rfl, q⟩; replace H2 := q.heap H2; replace f := f.trans q; clear q c0 c1 c2 c3 c4 c5 z0 z1 z2 z3 z4 z5 i0 i1 i2 i3 i4 i5 y0 y1 y2 y3 y4 y5 H5 r0 r1 r2; obtain ⟨c0, c1, c2, c3, c4, c5⟩ := blk6 H2; have z0 := unfroz H2 0; have z1 := unfroz H2 1; have z2 := unfroz H2 2; have z3 := unfroz H2 3; have z4 := unfroz H2 4; have z5 := unfroz H2 5; have i0 := idemC H2 c0; have i1 := idemC H2 c1; have i2 := idemC H2 c2; have i3 := idemC H2 c3; have i4 := idemC H2 c4; have i5 := idemC H2 c5; have H2' := Lib.hid H2; have f' := Lib.hid f; clear H2 f)
            refine bodyPost_ret (results_row_tmp rfl _ _ g2 26 _ (0, 0) _ rfl H2'.out Tryd.underlying26 rfl (by kernel_rfl)) rfl ?_
            exact HP.out _ _ (HZ.out _ f'.out)
          | true =>
            have hz : outR ⟨fl, nx, cu - 1, la - 1, bs, os⟩ L.length (some j) = (⟨fl, nx, cu - 1, la - 1, bs, os⟩, 0) := by simp only [outR]; rw [if_pos ⟨hje, hmb⟩]
            rw [hz] at HP
            have HO := Lib.hid (And.intro O4 (And.intro O5 OC))
            clear hmb hz O4 O5 OC hB hO hje
            go_wp2_with (go_at_call 14; refine hM'.out.mono ?_; rintro e wx ⟨rfl, q⟩; replace H2 := q.heap H2; replace H5 := q.heap H5; replace f := f.trans q; clear c0 c1 c2 c3 c4 c5 z0 z1 z2 z3 z4 z5 i0 i1 i2 i3 i4 i5 y0 y1 y2 y3 y4 y5 r0 r1 r2; obtain ⟨c0, c1, c2, c3, c4, c5⟩ := blk6 H2; have z0 := unfroz H2 0; have z1 := unfroz H2 1; have z2 := unfroz H2 2; have z3 := unfroz H2 3; have z4 := unfroz H2 4; have z5 := unfroz H2 5; obtain ⟨y0, y1, y2, y3, y4, y5⟩ := blk6 H5; obtain ⟨w9, hw9, q9, H9⟩ := set6all H2 (.int .u64 fl) (.int .u64 nx) (.int .i64 (cu - 1)) (.int .i64 (la - 1)) (.slice a4 bs.length d4) (.slice a5 os.length d5); (have HE := Lib.hid (And.intro H9 (And.intro (row_own f hw q9 hB2) (And.intro (own_grown (own_fr HO.out.1 q) q9 H2 (by decide)) (And.intro (own_grown (own_fr HO.out.2.1 q) q9 H2 (by decide)) ((HO.out.2.2.fr q).grown q9 H2 (by decide))))))); clear q q9 H9 H2 H5 f)
            refine bodyPost_ret (results_row_tmp rfl _ _ g2 26 _ (0, 0) _ rfl HE.out.1 Tryd.underlying26 rfl (by kernel_rfl)) rfl ?_
            exact HP.out _ _ ⟨a4, d4, a5, d5, bl, rfl, HE.out.2.1, own_BRow HE.out.2.2.1, own_ORow HE.out.2.2.2.1 HE.out.2.2.2.2⟩
end Go.Proofs.YtefkklgelmbaiaaDoor
set_option linter.unusedSimpArgs false
set_option linter.unusedVariables false
namespace Go.Proofs.YtefkklgelmbaiaaDoor
open Go.RowKit Go.Proofs

set_option maxRecDepth 100000 in
theorem catch14_idle (p1 p2 : Addr) (w : World) :
    CallsD Tryd.prog 25 #[.pointer (some p1), .pointer (some p2)] .returning w fun e u' w' => e = .returned (.tuple #[]) ∧ u' = .returning ∧ w' = w := by
  refine callsD_of_wpS Tryd.func25 rfl fun c₀ cs hu => ?_
  apply wpS_seq
  apply wpS_region
  simp [wpOpsS, go_sem, recoverD, hu, Tryd.ntmps25, Exit.thenS]
  apply wpS_seq
  apply wpS_region
  simp [wpOpsS, go_sem, Exit.thenS]
  refine wpS_cond (t := false) (by simp [Act.eval, Array.replicate]) ?_
  simp only [Bool.false_eq_true, if_false]
  refine wpS_of_wp (wp_skip ?_)
  cases c₀
  simp_all [bodyPostS, results, Tryd.results25, Exit.thenS]

theorem run_assert14 (v : Value) (xT : TypeId) (w : World) : (Instr.typeAssert (.iface 72 v) xT 72 true).run Tryd.prog w = .ok (.tuple #[v, .bool true]) w := by
  simp [Instr.typeAssert, run_underlying Tryd.underlying72, go_sem, Result.andThen]
theorem set_step14 {w0 w : World} {B g : Nat} {cs : Array Value} {t : TypeId} {fz : Nat × Nat} (hb : Below B w0 w) (hB : B ≤ g) (H : w.heap[g]? = some (.cells cs t fz)) (j : Nat) (v : Value) :
    ∃ w1, w.setCell ⟨g, j, none⟩ v = w1 ∧ w1.heap[g]? = some (.cells (cs.setIfInBounds j v) t fz) ∧ Below B w0 w1 ∧ ∀ k o, w.heap[k]? = some o → k ≠ g → w1.heap[k]? = some o :=
  ⟨_, rfl, by simp [World.setCell, Array.getElem?_modify, H], hb.setCell hB v, fun k o hk hne => (Below.heap_setCell w ⟨g, j, none⟩ v k hne).trans hk⟩

set_option maxHeartbeats 3200000 in
set_option maxRecDepth 100000 in
theorem catch14_bad (g g1 : Nat) (hg1 : g < g1) (older : List PanicEntry) (w : World)
    (v0 v1 v2 v3 v4 v5 c1 : Value) (H0 : w.heap[g]? = some (.cells #[v0, v1, v2, v3, v4, v5] 26 (0, 0))) (H1 : w.heap[g1]? = some (.cells #[c1] 31 (0, 0))) :
    CallsD Tryd.prog 25 #[.pointer (some ⟨g, 0, none⟩), .pointer (some ⟨g1, 0, none⟩)] (.panicking ({ v := .iface 72 (.agg #[]), recovered := false } :: older)) w fun e u' w' =>
      e = .returned (.tuple #[]) ∧ u' = .panicking ({ v := .iface 72 (.agg #[]), recovered := true } :: older) ∧ Below g w w' ∧
      w'.heap[g]? = some (.cells #[.int .u64 0, .int .u64 0, .int .i64 0, .int .i64 0, .slice none 0 0, .slice none 0 0] 26 (0, 0)) ∧ w'.heap[g1]? = some (.cells #[.int .i64 140] 31 (0, 0)) := by
  refine callsD_of_wpS Tryd.func25 rfl fun c₀ cs hu => ?_
  apply wpS_seq
  apply wpS_region
  simp [wpOpsS, go_sem, recoverD, hu, Tryd.ntmps25, Exit.thenS]
  obtain ⟨Q0, hQ0⟩ : ∃ Q0 : Exit → Act → World → Prop, Q0 = (fun e a' w' => e = .normal ∧ a'.defers = [] ∧ Below g w w' ∧
      w'.heap[g]? = some (.cells #[.int .u64 0, .int .u64 0, .int .i64 0, .int .i64 0, .slice none 0 0, .slice none 0 0] 26 (0, 0)) ∧ w'.heap[g1]? = some (.cells #[.int .i64 140] 31 (0, 0))) := ⟨_, rfl⟩
  replace hQ0 := Lib.hid hQ0
  refine wpS_of_wp (wp_mono (Q := Q0) ?_ ?_)
  · have ht : (#[.pointer (some ⟨g, 0, none⟩), .pointer (some ⟨g1, 0, none⟩)] ++ (((Array.replicate 15 undef).setIfInBounds 3 (.iface 72 (.agg #[]))).setIfInBounds 0 (.iface 72 (.agg #[]))) : Array Value) = #[.pointer (some ⟨g, 0, none⟩), .pointer (some ⟨g1, 0, none⟩), .iface 72 (.agg #[]), undef, undef, .iface 72 (.agg #[]), undef, undef, undef, undef, undef, undef, undef, undef, undef, undef, undef] := by simp [Array.replicate, List.replicate]
    rw [ht]
    clear ht
    have hta := run_assert14
    have hlt0 := (Array.getElem?_eq_some_iff.1 H0).1
    have hlt1 := (Array.getElem?_eq_some_iff.1 H1).1
    obtain ⟨gf, hgf⟩ : ∃ gf, w.heap.size = gf := ⟨_, rfl⟩
    obtain ⟨wf, hwf⟩ : ∃ wf, w.alloc (.cells #[] 72) = wf := ⟨_, rfl⟩
    have b0 : Below g w wf := by rw [← hwf]; exact (Below.refl g w).alloc (by omega) _
    have G0 : wf.heap[g]? = some (.cells #[v0, v1, v2, v3, v4, v5] 26 (0, 0)) := by rw [← hwf, heap_alloc_old w _ hlt0]; exact H0
    have P0 : wf.heap[g1]? = some (.cells #[c1] 31 (0, 0)) := by rw [← hwf, heap_alloc_old w _ hlt1]; exact H1
    obtain ⟨w1, e1, G1, b1, o1⟩ := set_step14 b0 (Nat.le_refl g) G0 0 (.int .u64 0)
    obtain ⟨w2, e2, G2, b2, o2⟩ := set_step14 b1 (Nat.le_refl g) G1 1 (.int .u64 0)
    obtain ⟨w3, e3, G3, b3, o3⟩ := set_step14 b2 (Nat.le_refl g) G2 2 (.int .i64 0)
    obtain ⟨w4, e4, G4, b4, o4⟩ := set_step14 b3 (Nat.le_refl g) G3 3 (.int .i64 0)
    obtain ⟨w5, e5, G5, b5, o5⟩ := set_step14 b4 (Nat.le_refl g) G4 4 (.slice none 0 0)
    obtain ⟨w6, e6, G6, b6, o6⟩ := set_step14 b5 (Nat.le_refl g) G5 5 (.slice none 0 0)
    have n1 : g1 ≠ g := by omega
    have P1 := o6 _ _ (o5 _ _ (o4 _ _ (o3 _ _ (o2 _ _ (o1 _ _ P0 n1) n1) n1) n1) n1) n1
    obtain ⟨w8, e8, G8, b8, o8⟩ := set_step14 b6 (Nat.le_of_lt hg1) P1 0 (.int .i64 140)
    have F0 : w8.heap[g]? = some (.cells #[.int .u64 0, .int .u64 0, .int .i64 0, .int .i64 0, .slice none 0 0, .slice none 0 0] 26 (0, 0)) := by
      have := o8 g _ G6 (by omega)
      simpa only [List.setIfInBounds_toArray, List.set_cons_zero, List.set_cons_succ] using this
    have F1 : w8.heap[g1]? = some (.cells #[.int .i64 140] 31 (0, 0)) := G8
    have y2 := unfroz P1 0
    have q0 := blk1 P1
    obtain ⟨c0, c1, c2, c3, c4, c5⟩ := blk6 G0
    have z0 := unfroz G0 0
    have r1 := unfroz G1 1
    have k1 : w1.cell? ⟨g, 1, none⟩ = some v1 := blk_cell G1 (by simp)
    have r2 := unfroz G2 2
    have k2 : w2.cell? ⟨g, 2, none⟩ = some v2 := blk_cell G2 (by simp)
    have r3 := unfroz G3 3
    have k3 : w3.cell? ⟨g, 3, none⟩ = some v3 := blk_cell G3 (by simp)
    have r4 := unfroz G4 4
    have k4 : w4.cell? ⟨g, 4, none⟩ = some v4 := blk_cell G4 (by simp)
    have r5 := unfroz G5 5
    have k5 : w5.cell? ⟨g, 5, none⟩ = some v5 := blk_cell G5 (by simp)
    have F := Lib.hid (And.intro b8 (And.intro F0 F1))
    clear F0 F1 b0 b1 b2 b3 b4 b5 b6 b8 o1 o2 o3 o4 o5 o6 o8 G0 G1 G2 G3 G4 G5 G6 G8 P0 P1 H0 H1 n1 hlt0 hlt1
    go_wp2
    rw [hQ0.out]
    exact ⟨rfl, rfl, F.out⟩
  · rw [hQ0.out]
    rintro e a' w' ⟨rfl, hd, hb, h0, h1⟩
    exact ⟨hd, _, rfl, .tuple #[], by simp [results, Tryd.results25], rfl, rfl, hb, h0, h1⟩

set_option maxRecDepth 100000 in
theorem door14_bad (T : Array Value) (g g1 : Nat) (hg1 : g < g1) (w0 w : World) (hw0 : Ok w0) (f : Fr w0 w) (hB : w0.heap.size ≤ g)
    (hT2 : T[2]? = some (.pointer (some ⟨g, 0, none⟩))) (hT3 : T[3]? = some (.pointer (some ⟨g1, 0, none⟩)))
    (v0 v1 v2 v3 v4 v5 c1 : Value) (H0 : w.heap[g]? = some (.cells #[v0, v1, v2, v3, v4, v5] 26 (0, 0))) (H1 : w.heap[g1]? = some (.cells #[c1] 31 (0, 0))) :
    Leaves Tryd.prog Tryd.f12 T (fun e w' => OutS w0 St.zero 140 e w') [{ target := .fn (.func 25) #[.pointer (some ⟨g, 0, none⟩), .pointer (some ⟨g1, 0, none⟩)], args := #[] }] (.panicking [{ v := .iface 72 (.agg #[]), recovered := false }]) w := by
  refine leaves_cons (f := 25) (args := #[.pointer (some ⟨g, 0, none⟩), .pointer (some ⟨g1, 0, none⟩)]) (by simp) (by simp [go_sem]) ?_
  refine (catch14_bad g g1 hg1 [] w v0 v1 v2 v3 v4 v5 c1 H0 H1).mono ?_
  rintro e u' w'' ⟨rfl, rfl, hb, h0, h1⟩
  have q : Fr w0 w'' := Fr.of hw0 (f.below.trans (hb.mono hB))
  obtain ⟨c0, c1, c2, c3, c4, c5⟩ := blk6 h0
  have d0 := blk1 h1
  simp [Leaves, settle, results, Tryd.results12, go_sem, hT2, hT3, c0, c1, c2, c3, c4, c5, d0]
  exact OutS.zero q 140
set_option maxRecDepth 100000 in
theorem door14_ok (T : Array Value) (g g1 : Nat) (w0 w : World) (s : St) (a1 : Option Addr) (d1 : Nat) (a2 : Option Addr) (d2 : Nat) (bl : Al) (f : Fr w0 w) (hB : BRow w a1 s.bs) (hO : ORow w a2 bl s.os)
    (hT2 : T[2]? = some (.pointer (some ⟨g, 0, none⟩))) (hT3 : T[3]? = some (.pointer (some ⟨g1, 0, none⟩)))
    (H0 : w.heap[g]? = some (.cells #[.int .u64 s.floor, .int .u64 s.next, .int .i64 s.cur, .int .i64 s.last, .slice a1 s.bs.length d1, .slice a2 s.os.length d2] 26 (0, 0))) (H1 : w.heap[g1]? = some (.cells #[.int .i64 0] 31 (0, 0))) :
    Leaves Tryd.prog Tryd.f12 T (fun e w' => OutS w0 s 0 e w') [{ target := .fn (.func 25) #[.pointer (some ⟨g, 0, none⟩), .pointer (some ⟨g1, 0, none⟩)], args := #[] }] .returning w := by
  refine leaves_cons (f := 25) (args := #[.pointer (some ⟨g, 0, none⟩), .pointer (some ⟨g1, 0, none⟩)]) (by simp) (by simp [go_sem]) ?_
  refine (catch14_idle _ _ _).mono ?_
  rintro e u' w'' ⟨rfl, rfl, rfl⟩
  obtain ⟨c0, c1, c2, c3, c4, c5⟩ := blk6 H0
  have d0 := blk1 H1
  simp [Leaves, settle, results, Tryd.results12, go_sem, hT2, hT3, c0, c1, c2, c3, c4, c5, d0]
  exact ⟨a1, d1, a2, d2, bl, rfl, f, hB, hO⟩
end Go.Proofs.YtefkklgelmbaiaaDoor
