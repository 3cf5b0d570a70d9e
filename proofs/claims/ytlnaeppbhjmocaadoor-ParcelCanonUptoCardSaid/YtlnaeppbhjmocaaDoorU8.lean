/- The program's leaf: errors stay; names in rows of the call's own. No conditions. -/
import Derived.Test.YtlnaeppbhjmocaaDoorU7
import Derived.Laws.Bits64b
import Derived.Deep.DeepCutAuto
import Derived.Laws.RangeString
import Derived.Laws.Runes
import Derived.Laws.Strings3
import Derived.Lib.DecodeN
import Derived.Lib.IndexAny
import Derived.Lib.IndexBytes
import Derived.Deep.LoopGhost
import Derived.WalkMore
import Derived.Lib.Bytealg
set_option linter.unusedSectionVars false
set_option linter.unnecessarySimpa false
set_option linter.unusedSimpArgs false
set_option linter.unusedVariables false
set_option linter.unusedSimpArgs false
set_option linter.unusedVariables false
namespace Go.Proofs.YtlnaeppbhjmocaaDoor
open Go.RowKit Go.Proofs Go.Proofs.YtlnaeppbhjmocaaDoorW.PrintWords Go.Proofs.YtlnaeppbhjmocaaDoorW.PrintLast Go.Proofs.YtlnaeppbhjmocaaDoorW.PrintMore

/-- append of the call's own blocks: the row stays, or is a new one -/
def Ownish (w : World) (r r' : Option Nat) : Prop := r' = r ∨ ∃ k, r' = some k ∧ w.heap.size ≤ k
theorem grown_ish {a b c : World} {r r' : Option Nat} (h : a.grownBy b r) (k : b.grownBy c r') (hr : Ownish a r r') : a.grownBy c r := by
  rcases hr with e | ⟨x, e, hx⟩
  · subst e; exact grown_trans h k
  · subst e; exact grown_own h k (fun i hi => by injection hi with hi; omega)
theorem grown_none {a b : World} {r : Option Nat} (q : a.grownBy b none) : a.grownBy b r := ⟨q.os, q.tape, q.output, q.size, fun i hi _ => q.block i hi (by simp)⟩
theorem Ownish.step {a b : World} {r r' r'' : Option Nat} (h : Ownish a r r') (hs : a.heap.size ≤ b.heap.size) (k : r'' = r' ∨ r'' = some b.heap.size) : Ownish a r r'' := by
  rcases k with e | e
  · rw [e]; exact h
  · exact .inr ⟨_, e, hs⟩
set_option maxHeartbeats 3200000 in
set_option maxRecDepth 100000 in
theorem put_any (B : Nat) (A : Option Addr) (c : Nat) (xs : List Int) (x : Int) (n : Nat) (h0 : 0 ≤ x) (hx : x ≤ 18446744073709551615) (hn : n ≤ 8) (w : World) (hw : Ok w) (hO : OwnB w B (.slice A xs.length c) xs) (hB : B ≤ w.heap.size) (hl : xs.length ≤ 1099511627776) :
    Calls Tryd.prog 39 #[.slice A xs.length c, .int .u64 x, .int .i64 n] w fun e w' => ∃ a d, e = .returned (.slice a (xs ++ le x n).length d) ∧ OwnB w' B (.slice a (xs ++ le x n).length d) (xs ++ le x n) ∧ w.grownBy w' (Value.slice A xs.length c).ownBlock ∧ Ownish w (Value.slice A xs.length c).ownBlock (Value.slice a (xs ++ le x n).length d).ownBlock := by
  obtain ⟨iB, hiB, hzB, hsB, hyB⟩ := info_byte
  have HiB := Lib.hid hiB
  have HO := Lib.hid hO
  clear hiB hO
  go_enter Tryd.func39, Tryd.ntmps39
  go_wp2_with fail
  go_loopg [0, 1, 8] n (fun k v0 v1 v8 wc => ∃ (i : Nat) (y : Int) (zs : List Int) (a : Option Addr) (d : Nat), i + k = n ∧ v0 = .slice a zs.length d ∧ v1 = .int .u64 y ∧ v8 = .int .i64 i ∧ 0 ≤ y ∧ y ≤ 18446744073709551615 ∧ zs.length = xs.length + i ∧ Hid (zs ++ le y k = xs ++ le x n) ∧ Hid (OwnB wc B (.slice a zs.length d) zs) ∧ Hid (w.grownBy wc (Value.slice A xs.length c).ownBlock) ∧ Hid (Ownish w (Value.slice A xs.length c).ownBlock (Value.slice a zs.length d).ownBlock))
  case atStart => exact ⟨0, x, xs, A, c, by omega, rfl, rfl, rfl, h0, hx, by omega, Lib.hid rfl, HO, Lib.hid (grown_refl w _), Lib.hid (.inl rfl)⟩
  case round =>
    obtain ⟨i, y, zs, a, d, hik, rfl, rfl, rfl, hy0, hy1, hzl, HE, O, G, S⟩ := hrel
    cases gk with
    | zero =>
      obtain rfl : i = n := by omega
      have d1 : decide ((i : Int) < (i : Int)) = false := decide_eq_false (by omega)
      have he : zs = xs ++ le x i := by have := HE.out; simpa [le] using this
      subst he
      go_wp2
      go_ret
      exact ⟨a, d, rfl, O.out, G.out, S.out⟩
    | succ k =>
      have d1 : decide ((i : Int) < (n : Int)) = true := decide_eq_true (by omega)
      have w8 : IntKind.u8.wrap y = y % 256 := by rw [IntKind.wrap_u8]
      obtain ⟨w3, g3, hg3, hw3, q3, hz3, H3⟩ : ∃ w1 g, wr.heap.size = g ∧ wr.alloc (.cells #[.int .u8 (y % 256)] 5) = w1 ∧ wr.grownBy w1 none ∧ g < w1.heap.size ∧ w1.heap[g]? = some (.cells #[.int .u8 (y % 256)] 5 (0, 0)) :=
        ⟨_, _, rfl, rfl, ⟨rfl, rfl, rfl, by simp, fun j hj _ => heap_alloc_old wr _ hj⟩, by simp, heap_alloc_new wr _⟩
      have O3 : OwnB w3 B (.slice a zs.length d) zs := World.ownsRow.kept O.out q3 (by cases (Value.slice a zs.length d).ownBlock <;> simp)
      have hbw : B ≤ w3.heap.size := by have := G.out.size; have := q3.size; omega
      obtain ⟨v5, w5, hap, O5, q5, hob⟩ := append_src Tryd.underlying22 HiB.out hzB hsB hyB rfl (by decide) 22 O3 (some ⟨g3, 0, none⟩) 1 1 _ (Src.lit H3 1 1) (by simp) (by simp [Value.oneCell']) (by unfold maxLen; omega) (by omega) hbw
      have hO5 : OwnB w5 B v5 (zs ++ [y % 256]) := by unfold OwnB; rw [List.length_append, List.map_append]; simpa using O5
      obtain ⟨a5, d5, hv5⟩ := hO5.form
      subst hv5
      have HO5 := Lib.hid hO5
      have hgr : w.grownBy w5 (Value.slice A xs.length c).ownBlock := grown_ish (grown_trans G.out (grown_none q3)) q5 S.out
      clear O5 O3 hO5
      go_wp2_with (at_builtin; refine wpList_append_run rfl _ _ 22 22 rfl (by simp [Act.eval]) (by simp [Act.eval]) hap ?_)
      go_roundg k
      case measure => omega
      case rel =>
        refine ⟨i + 1, y / 256, zs ++ [y % 256], a5, d5, by omega, by simp [hzl], rfl, by go_num, by omega, by omega, by simp [hzl]; omega, Lib.hid ?_, HO5, Lib.hid hgr, Lib.hid ?_⟩
        · have := HE.out
          simp only [le] at this
          simpa using this
        · refine S.out.step ?_ hob
          have := G.out.size; have := q3.size; omega

/-! ### Is there a hole -/
theorem nh_l0 (l : List Int) (hl : l.length ≤ 1073741824) : ∀ (d i run : Nat), i + d = l.length → run ≤ i → ∃ r1 r2, PnextHole.parcel_nextHole.l0 (d + 1) l (run : Int) (i : Int) = some (r1, r2) ∧ (r1 == (l.length : Int)) = !scan16 run (l.drop i) := by
  intro d
  induction d with
  | zero =>
    intro i run hi hr
    have hd : l.drop i = [] := List.drop_eq_nil_of_le (by omega)
    rw [hd]
    simp only [PnextHole.parcel_nextHole.l0]
    rw [if_neg (by omega)]
    by_cases h16 : 16 ≤ run
    · rw [if_pos (by omega)]
      refine ⟨_, _, rfl, ?_⟩
      rw [wr64 ⟨by omega, by omega⟩]
      have h1 : ((l.length : Int) - (run : Int) == (l.length : Int)) = false := by simp; omega
      rw [h1]; simp [scan16, h16]
    · rw [if_neg (by omega)]
      refine ⟨_, _, rfl, ?_⟩
      simp [scan16]; omega
  | succ d ih =>
    intro i run hi hr
    have hlt : i < l.length := by omega
    have hd : l.drop i = l[i] :: l.drop (i + 1) := List.drop_eq_getElem_cons hlt
    have hrd : rd l (i : Int) = l[i] := by unfold rd; rw [Int.toNat_natCast]; simp [List.getD, hlt]
    have e3 : wrap64 ((i : Int) + 1) = ((i + 1 : Nat) : Int) := by rw [wr64 ⟨by omega, by omega⟩]; omega
    have e4 : wrap64 ((run : Int) + 1) = ((run + 1 : Nat) : Int) := by rw [wr64 ⟨by omega, by omega⟩]; omega
    obtain ⟨D, hD⟩ : ∃ D, d + 1 = D := ⟨_, rfl⟩
    rw [hD]
    simp only [PnextHole.parcel_nextHole.l0]
    rw [if_pos (by omega), if_pos (by omega), hrd, e3, e4, hd, ← hD]
    by_cases h0 : l[i] = 0
    · rw [if_pos h0]
      obtain ⟨r1, r2, h1, h2⟩ := ih (i + 1) (run + 1) (by omega) (by omega)
      exact ⟨r1, r2, h1, by rw [h2]; simp only [scan16, if_pos h0]⟩
    · rw [if_neg h0]
      by_cases h16 : 16 ≤ run
      · rw [if_pos (by omega)]
        refine ⟨_, _, rfl, ?_⟩
        rw [wr64 ⟨by omega, by omega⟩]
        have h1 : ((i : Int) - (run : Int) == (l.length : Int)) = false := by simp; omega
        rw [h1]; simp [scan16, h0, h16]
      · rw [if_neg (by omega)]
        obtain ⟨r1, r2, h1, h2⟩ := ih (i + 1) 0 (by omega) (by omega)
        exact ⟨r1, r2, h1, by rw [h2]; simp [scan16, h0, h16]⟩
theorem nextHole_any (A : Option Addr) (c : Nat) (L : List Int) (hc : L.length ≤ c) (hL : L.length ≤ 1073741824) (w : World) (hw : Ok w) (hA : BytesAt w A L) :
    Calls Tryd.prog 79 #[.slice A L.length c, .int .i64 0] w fun e w' => ∃ r1 r2, e = .returned (.tuple #[.int .i64 r1, .int .i64 r2]) ∧ (r1 == (L.length : Int)) = no16 L ∧ Fr w w' := by
  obtain ⟨r1, r2, h1, h2⟩ := nh_l0 L hL L.length 0 0 (by omega) (by omega)
  rw [List.drop_zero, scan16_no] at h2
  exact (PnextHole.parcel_nextHole.calls _ A c L 0 r1 r2 w (hA.toC (by omega)) hc h1).mono fun e w' ⟨he, hd⟩ => ⟨r1, r2, he, by rw [h2]; simp, Fr.of hw hd.below⟩
end Go.Proofs.YtlnaeppbhjmocaaDoor
set_option linter.unusedSimpArgs false
set_option linter.unusedVariables false
namespace Go.Proofs.YtlnaeppbhjmocaaDoor
open Go.RowKit Go.Proofs Go.Proofs.YtlnaeppbhjmocaaDoorW.PrintWords Go.Proofs.YtlnaeppbhjmocaaDoorW.PrintLast Go.Proofs.YtlnaeppbhjmocaaDoorW.PrintMore

/-- what the reader gives up with -/
def gaveUp (c : Int) : Ending := .panicked [{ v := .iface 63 (.agg #[.int .i64 c]), recovered := false }]
theorem must_yes (p : Value) (w : World) : Calls Tryd.prog 69 #[p, .bool true] w fun e w' => e = .returned (.tuple #[]) ∧ w' = w := by
  go_enter Tryd.func69, Tryd.ntmps69
  go_wp2
  go_end0
  exact ⟨rfl, rfl⟩
theorem must_no (p : Value) (w : World) : Calls Tryd.prog 69 #[p, .bool false] w fun e w' => e = gaveUp 191 ∧ w' = w := by
  go_enter Tryd.func69, Tryd.ntmps69
  go_wp2
  exact ⟨rfl, rfl, rfl⟩
/-- must, at any Boolean: the fact wanted where it gives up -/
theorem must_or (X : Int → Prop) (p : Value) (b : Bool) (w : World) (hX : b = false → X 191) : Calls Tryd.prog 69 #[p, .bool b] w fun e w' => w' = w ∧ ((∃ c, X c ∧ e = gaveUp c) ∨ (b = true ∧ e = .returned (.tuple #[]))) := by
  cases b with
  | true => exact (must_yes p w).mono fun e w' ⟨h1, h2⟩ => ⟨h2, .inr ⟨rfl, h1⟩⟩
  | false => exact (must_no p w).mono fun e w' ⟨h1, h2⟩ => ⟨h2, .inl ⟨191, hX rfl, h1⟩⟩
def PB (w : World) (g : Nat) (A : Option Addr) (c : Nat) (L : List Int) (i : Nat) : Prop := w.heap[g]? = some (.cells #[.slice A L.length c, .int .i64 i] 67 (0, 0))
theorem PB.fr {w w' : World} {g : Nat} {A : Option Addr} {c : Nat} {L : List Int} {i : Nat} (h : PB w g A c L i) (q : Fr w w') : PB w' g A c L i := q.heap h
theorem PB.grown {w w' : World} {g : Nat} {A : Option Addr} {c : Nat} {L : List Int} {i : Nat} {r : Option Nat} (h : PB w g A c L i) (q : w.grownBy w' r) (hne : some g ≠ r) : PB w' g A c L i := grown_blk' q h hne
set_option maxHeartbeats 3200000 in
set_option maxRecDepth 100000 in
theorem takeP_yes (g gb ob c : Nat) (L : List Int) (i n : Nat) (w : World) (hw : Ok w) (H : PB w g (some ⟨gb, ob, none⟩) c L i) (hi : i + n ≤ L.length) (hc : L.length ≤ c) (hL : L.length ≤ 1099511627776) (hg : 4 ≤ g) :
    Calls Tryd.prog 37 #[.pointer (some ⟨g, 0, none⟩), .int .i64 n] w fun e w' => ∃ o' c', e = .returned (.slice (some ⟨gb, o', none⟩) n c') ∧ n ≤ c' ∧ (n = 0 ∨ o' = ob + i) ∧ w.grownBy w' (some g) ∧ PB w' g (some ⟨gb, ob, none⟩) c L (i + n) := by
  unfold PB at *
  have f := Fr.refl hw
  obtain ⟨c0, c1⟩ := blk2 H
  have w1 : IntKind.i64.wrap ((L.length : Int) - (i : Int)) = (L.length : Int) - (i : Int) := IntWalk.i64_in _ ⟨by omega, by omega⟩
  have d1 : decide (((L.length : Int) - (i : Int)) < (n : Int)) = false := decide_eq_false (by omega)
  go_enter Tryd.func37, Tryd.ntmps37
  go_wp2
  have r_c0 := cell_regrown c0
  have r_c1 := cell_regrown c1
  refine wp_region_quiet_below (by kernel_rfl) (by kernel_rfl) ?_
  repeat (go_big_quiet_step (fail))
  refine wpQuiet_nil ?_
  intro wq hwq
  have q := Fr.regrown f.ok hwq
  clear hwq r_c0 r_c1
  replace c0 := q.cell c0
  replace c1 := q.cell c1
  replace H := q.heap H
  replace f := f.trans q
  clear q
  clear w1 d1
  have w2 : IntKind.i64.wrap ((i : Int) + (n : Int)) = (i : Int) + (n : Int) := IntWalk.i64_in _ ⟨by omega, by omega⟩
  have w3 : IntKind.i64.wrap ((i : Int) + (n : Int) - (n : Int)) = (i : Int) := by rw [IntWalk.i64_in _ ⟨by omega, by omega⟩]; omega
  have z1 := unfroz H 1
  obtain ⟨wb, hwb, HB, gr⟩ := set_grown H 1 (.int .i64 ((i : Int) + (n : Int)))
  simp only [List.setIfInBounds_toArray, List.set_cons_zero, List.set_cons_succ] at HB
  obtain ⟨e0, e1⟩ := blk2 HB
  have h1 : (i : Int) ≤ (i : Int) + (n : Int) := by omega
  have h2 : (i : Int) + (n : Int) ≤ (c : Int) := by omega
  have h3 : (0 : Int) ≤ (i : Int) := by omega
  have gr2 := grown_trans (fr_grown f (some g)) gr
  have f2 := Fr.refl (hw.grown hg gr2)
  go_wp2
  clear w2 z1 hwb c0 c1
  have r_e0 := cell_regrown e0
  have r_e1 := cell_regrown e1
  refine wp_region_quiet_below (by kernel_rfl) (by kernel_rfl) ?_
  repeat (go_big_quiet_step (fail))
  refine wpQuiet_nil ?_
  intro wq hwq
  have q := Fr.regrown f2.ok hwq
  clear hwq r_e0 r_e1
  replace e0 := q.cell e0
  replace e1 := q.cell e1
  replace HB := q.heap HB
  replace f2 := f2.trans q
  clear q
  have HE := Lib.hid (And.intro (grown_trans gr2 (fr_grown f2 (some g))) HB)
  clear gr gr2 f f2 HB
  by_cases hci : c = i
  · have hci2 : (c : Int) = (i : Int) := by omega
    go_wp2
    all_goals (go_ret; exact ⟨_, _, rfl, by omega, .inl (by omega), HE.out.1, (by have := HE.out.2; rw [hci] at this; first | exact this | (rw [Int.natCast_add]; exact this))⟩)
  · have hci2 : ¬ (c : Int) = (i : Int) := by omega
    go_wp2
    go_ret
    exact ⟨_, _, rfl, by omega, .inr rfl, HE.out.1, HE.out.2⟩
set_option maxHeartbeats 3200000 in
set_option maxRecDepth 100000 in
theorem takeP_no (g : Nat) (A : Option Addr) (c : Nat) (L : List Int) (i n : Nat) (w : World) (hw : Ok w) (H : PB w g A c L i) (hi : i ≤ L.length) (hno : L.length < i + n) (hn : n ≤ 1099511627776) (hL : L.length ≤ 1099511627776) :
    Calls Tryd.prog 37 #[.pointer (some ⟨g, 0, none⟩), .int .i64 n] w fun e w' => e = gaveUp 190 ∧ Fr w w' := by
  unfold PB at *
  have f := Fr.refl hw
  obtain ⟨c0, c1⟩ := blk2 H
  have w1 : IntKind.i64.wrap ((L.length : Int) - (i : Int)) = (L.length : Int) - (i : Int) := IntWalk.i64_in _ ⟨by omega, by omega⟩
  have d1 : decide (((L.length : Int) - (i : Int)) < (n : Int)) = true := decide_eq_true (by omega)
  go_enter Tryd.func37, Tryd.ntmps37
  go_wp2
  have r_c0 := cell_regrown c0
  have r_c1 := cell_regrown c1
  refine wp_region_quiet_below (by kernel_rfl) (by kernel_rfl) ?_
  repeat (go_big_quiet_step (fail))
  refine wpQuiet_nil ?_
  intro wq hwq
  have q := Fr.regrown f.ok hwq
  clear hwq r_c0 r_c1
  replace c0 := q.cell c0
  replace c1 := q.cell c1
  replace f := f.trans q
  clear q
  go_wp2
  exact ⟨rfl, rfl, f⟩
/-- the next n bytes, or it gives up -/
theorem take_or (X : Int → Prop) (g gb ob c : Nat) (L : List Int) (i n : Nat) (w : World) (hw : Ok w) (H : PB w g (some ⟨gb, ob, none⟩) c L i) (hi : i ≤ L.length) (hA : BytesAt w (some ⟨gb, ob, none⟩) L) (hgb : gb ≠ g) (hn : n ≤ 1099511627776) (hc : L.length ≤ c) (hL : L.length ≤ 1073741824) (hg : 4 ≤ g)
    (hX : ∀ e, (takeX L n (.ok i)).2 = .error e → X e) :
    Calls Tryd.prog 37 #[.pointer (some ⟨g, 0, none⟩), .int .i64 n] w fun e w' => w.grownBy w' (some g) ∧ ((∃ c, X c ∧ e = gaveUp c) ∨ ∃ bs o' d, takeX L n (.ok i) = (bs, .ok (i + n)) ∧ e = .returned (.slice (some ⟨gb, o', none⟩) bs.length d) ∧ bs.length ≤ d ∧ bs.length = n ∧ BytesAt w' (some ⟨gb, o', none⟩) bs ∧ PB w' g (some ⟨gb, ob, none⟩) c L (i + n) ∧ i + n ≤ L.length) := by
  by_cases hle : i + n ≤ L.length
  · have hr : takeX L n (.ok i) = ((L.drop i).take n, .ok (i + n)) := by simp only [takeX, if_pos hle]
    have hl : ((L.drop i).take n).length = n := by rw [List.length_take, List.length_drop]; omega
    refine (takeP_yes g gb ob c L i n w hw H hle hc (by omega) hg).mono ?_
    rintro e w' ⟨o', d, rfl, hd, ho', gr, HR⟩
    refine ⟨gr, .inr ⟨_, o', d, hr, by rw [hl], by rw [hl]; exact hd, hl, ?_, HR, hle⟩⟩
    have hA' := hA.grown gr (fun a e => by injection e with e; subst e; intro e; injection e with e; exact hgb e)
    rcases ho' with h0 | h0
    · subst h0; left; simp
    · subst h0; exact hA'.sub i n
  · refine (takeP_no g _ c L i n w hw H hi (by omega) hn (by omega)).mono ?_
    rintro e w' ⟨rfl, f⟩
    exact ⟨fr_grown f _, .inl ⟨190, hX _ (by simp only [takeX, if_neg hle]), rfl⟩⟩

theorem or_step {M : List Int} (hM : bytesOk M) {i : Nat} (hi : i < M.length) (hs : M.length ≤ 8) :
    Go.bits .or .u64 (leV (M.take i)) (IntKind.u64.wrap (M.getD i 0 * 2 ^ (8 * i))) = leV (M.take (i + 1)) := by
  have hlen : (M.take i).length = i := by rw [List.length_take]; omega
  have hb := hM _ (List.getElem_mem hi)
  have hg : M.getD i 0 = M[i] := by simp [List.getD, hi]
  have hsn : M.take (i + 1) = M.take i ++ [M[i]] := List.take_succ_eq_append_getElem hi
  have hx0 := leV_nonneg (hM.take i)
  have hx1 := leV_lt (hM.take i)
  rw [hlen] at hx1
  rw [hg, hsn, leV_snoc, hlen]
  obtain ⟨x, hx⟩ : ∃ x : Nat, leV (M.take i) = (x : Int) := ⟨_, (Int.toNat_of_nonneg hx0).symm⟩
  obtain ⟨b, hbn⟩ : ∃ b : Nat, M[i] = (b : Int) := ⟨_, (Int.toNat_of_nonneg hb.1).symm⟩
  rw [hx] at hx0 hx1 ⊢
  rw [hbn] at hb ⊢
  have hb255 : b ≤ 255 := by omega
  have hpow : (256 : Int) ^ i = ((2 ^ (8 * i) : Nat) : Int) := by
    rw [Nat.pow_mul]; simp
  have hxl : x < 2 ^ (8 * i) := by
    rw [hpow] at hx1; exact_mod_cast hx1
  have hp56 : 2 ^ (8 * i) ≤ 2 ^ 56 := Nat.pow_le_pow_right (by decide) (by omega)
  have hmul : b * 2 ^ (8 * i) ≤ 255 * 2 ^ 56 := Nat.mul_le_mul hb255 hp56
  have hsh : IntKind.u64.wrap ((b : Int) * 2 ^ (8 * i)) = ((b * 2 ^ (8 * i) : Nat) : Int) := by
    have : (b : Int) * 2 ^ (8 * i) = ((b * 2 ^ (8 * i) : Nat) : Int) := by simp
    rw [this]
    exact u64_in ⟨by omega, by omega⟩
  rw [hsh, bits_or_u64_nat _ _ (by omega) (by omega), hpow]
  have hor : x ||| b * 2 ^ (8 * i) = x + b * 2 ^ (8 * i) := by
    rw [Nat.or_comm, Nat.mul_comm, ← Nat.two_pow_add_eq_or_of_lt hxl, Nat.add_comm]
  rw [hor]
  simp

set_option maxHeartbeats 6400000 in
set_option maxRecDepth 100000 in
/-- a number, or it gives up -/
theorem num_or (X : Int → Prop) (g gb ob c : Nat) (L : List Int) (i n : Nat) (low high : Int) (w : World) (hw : Ok w) (H : PB w g (some ⟨gb, ob, none⟩) c L i) (hi : i ≤ L.length) (hA : BytesAt w (some ⟨gb, ob, none⟩) L) (hgb : gb ≠ g) (hb : bytesOk L) (hn : 1 ≤ n ∧ n ≤ 8) (hc : L.length ≤ c) (hL : L.length ≤ 1073741824) (hg : 4 ≤ g)
    (hX : ∀ e, (numX L n low high (.ok i)).2 = .error e → X e) :
    Calls Tryd.prog 56 #[.pointer (some ⟨g, 0, none⟩), .int .i64 n, .int .u64 low, .int .u64 high] w fun e w' => w.grownBy w' (some g) ∧ ((∃ c, X c ∧ e = gaveUp c) ∨ ∃ v j, numX L n low high (.ok i) = (v, .ok j) ∧ e = .returned (.int .u64 v) ∧ PB w' g (some ⟨gb, ob, none⟩) c L j ∧ j ≤ L.length ∧ low ≤ v ∧ v ≤ high ∧ 0 ≤ v) := by
  have hT := take_or X g gb ob c L i n w hw H hi hA hgb (by omega) hc hL hg (fun e h => hX e (by unfold numX; split <;> rename_i h2 <;> rw [h2] at h <;> first | exact h | cases h))
  have HT := Lib.hid hT
  have HX := Lib.hid hX
  clear hT hX hA H
  go_enter Tryd.func56, Tryd.ntmps56
  go_wp2_with (go_at_call 37; refine HT.out.mono ?_; rintro e wx ⟨gr, ⟨cc, hcc, he⟩ | ⟨bs, o', d, et, rfl, hd, hbn, hB, HR, hle⟩⟩ <;> try (unfold gaveUp at he; subst he))
  · exact ⟨rfl, gr, .inl ⟨cc, hcc, rfl⟩⟩
  · have hbk : bytesOk bs := by have := (takeX_ok hb n (.ok i)).1; rw [et] at this; exact this
    subst hbn
    have hnx : numX L bs.length low high (.ok i) = if low ≤ leV bs ∧ leV bs ≤ high then (leV bs, .ok (i + bs.length)) else (0, .error 191) := by unfold numX; rw [et]
    have HNX := Lib.hid hnx
    have HC : Hid (∀ j (h : j < bs.length), wx.cell? ⟨gb, o' + j, none⟩ = some (.int .u8 (bs.getD j 0))) := Lib.hid (fun j hj => by
      rcases hB with h | ⟨g', o2, e, _, h⟩
      · rw [h] at hj; simp at hj
      · injection e with e; injection e with e1 e2; subst e1 e2
        rw [show bs.getD j 0 = bs[j] by simp [List.getD, hj]]; exact h j _ (List.getElem?_eq_getElem hj))
    have HS := Lib.hid (fun j h => or_step hbk (i := j) h (by omega))
    have HBK := Lib.hid hbk
    have HV := leV_u64 hbk (by omega)
    have HF := Lib.hid (And.intro gr (And.intro HR hle))
    clear et gr HR hnx hB hbk
    go_loop [9, 16] (fun v9 v16 => ∃ k : Nat, k ≤ bs.length ∧ v9 = .int .u64 (leV (bs.take k)) ∧ v16 = .int .i64 k) (fun _ v16 => bs.length - (intOf v16).toNat)
    case atStart => exact ⟨0, Nat.zero_le _, rfl, rfl⟩
    case round =>
      obtain ⟨k, hk, rfl, rfl⟩ := hrel
      by_cases hlt : k < bs.length
      · have hcell := HC.out k hlt
        have hst := HS.out k hlt
        have hgd := getD_byte HBK.out k
        obtain ⟨b, hbb⟩ : ∃ b, bs.getD k 0 = b := ⟨_, rfl⟩
        rw [hbb] at hcell hst hgd
        have wb : IntKind.u64.wrap b = b := u64_in ⟨by omega, by omega⟩
        have w8 : IntKind.i64.wrap (8 * (k : Int)) = 8 * (k : Int) := IntWalk.i64_in _ ⟨by omega, by omega⟩
        have d1 : decide ((k : Int) < (bs.length : Int)) = true := decide_eq_true (by omega)
        have d2 : (0 : Int) ≤ (k : Int) := by omega
        have d3 : (k : Int) < (bs.length : Int) := by omega
        clear hgd
        go_wp2
        go_round
        case rel => exact ⟨k + 1, by omega, rfl, by go_num⟩
        case measure => simp [intOf]; omega
      · obtain rfl : k = bs.length := by omega
        have d0 : decide ((bs.length : Int) < (bs.length : Int)) = false := decide_eq_false (by omega)
        rw [List.take_length]
        by_cases hlow : low ≤ leV bs
        · have d5 : decide (low ≤ leV bs) = true := decide_eq_true hlow
          by_cases hhigh : leV bs ≤ high
          · have d6 : decide (leV bs ≤ high) = true := decide_eq_true hhigh
            have hn := HNX.out
            rw [if_pos ⟨hlow, hhigh⟩] at hn
            have HN := Lib.hid (And.intro hn (And.intro hlow hhigh))
            clear hn hlow hhigh hlt
            go_wp2_with (go_at_call 69; refine (must_yes _ _).mono ?_; rintro e wy ⟨rfl, rfl⟩)
            go_ret
            exact ⟨HF.out.1, .inr ⟨_, _, HN.out.1, rfl, HF.out.2.1, HF.out.2.2, HN.out.2.1, HN.out.2.2, HV.1⟩⟩
          · have d6 : decide (leV bs ≤ high) = false := decide_eq_false hhigh
            have hn := HNX.out
            rw [if_neg (fun h => hhigh h.2)] at hn
            have HN := Lib.hid hn
            clear hn hlow hhigh hlt
            go_wp2_with (go_at_call 69; refine (must_no _ _).mono ?_; rintro e wy ⟨he, rfl⟩; unfold gaveUp at he; subst he)
            exact ⟨rfl, HF.out.1, .inl ⟨191, HX.out _ (by rw [HN.out]), rfl⟩⟩
        · have d5 : decide (low ≤ leV bs) = false := decide_eq_false hlow
          have hn := HNX.out
          rw [if_neg (fun h => hlow h.1)] at hn
          have HN := Lib.hid hn
          clear hn hlow hlt
          go_wp2_with (go_at_call 69; refine (must_no _ _).mono ?_; rintro e wy ⟨he, rfl⟩; unfold gaveUp at he; subst he)
          exact ⟨rfl, HF.out.1, .inl ⟨191, HX.out _ (by rw [HN.out]), rfl⟩⟩
end Go.Proofs.YtlnaeppbhjmocaaDoor
set_option linter.unusedSimpArgs false
set_option linter.unusedVariables false
namespace Go.Proofs.YtlnaeppbhjmocaaDoor
open Go.RowKit Go.Proofs Go.Proofs.YtlnaeppbhjmocaaDoorW.PrintWords Go.Proofs.YtlnaeppbhjmocaaDoorW.PrintMore

theorem num_yes (g gb ob c : Nat) (L : List Int) (i n : Nat) (low high : Int) (w : World) (hw : Ok w) (H : PB w g (some ⟨gb, ob, none⟩) c L i) (hi : i ≤ L.length) (hA : BytesAt w (some ⟨gb, ob, none⟩) L) (hgb : gb ≠ g) (hb : bytesOk L) (hn : 1 ≤ n ∧ n ≤ 8) (hc : L.length ≤ c) (hL : L.length ≤ 1073741824) (hg : 4 ≤ g)
    {v : Int} {j : Nat} (h : numX L n low high (.ok i) = (v, .ok j)) :
    Calls Tryd.prog 56 #[.pointer (some ⟨g, 0, none⟩), .int .i64 n, .int .u64 low, .int .u64 high] w fun e w' => e = .returned (.int .u64 v) ∧ w.grownBy w' (some g) ∧ PB w' g (some ⟨gb, ob, none⟩) c L j := by
  refine (num_or (fun _ => False) g gb ob c L i n low high w hw H hi hA hgb hb hn hc hL hg (fun e he => by rw [h] at he; cases he)).mono ?_
  rintro e w' ⟨gr, ⟨cc, hcc, _⟩ | ⟨v', j', h', rfl, HR, _⟩⟩
  · exact hcc.elim
  · rw [h] at h'
    simp only [Prod.mk.injEq, Except.ok.injEq] at h'
    obtain ⟨rfl, rfl⟩ := h'
    exact ⟨rfl, gr, HR⟩
theorem num_no (g gb ob c : Nat) (L : List Int) (i n : Nat) (low high : Int) (w : World) (hw : Ok w) (H : PB w g (some ⟨gb, ob, none⟩) c L i) (hi : i ≤ L.length) (hA : BytesAt w (some ⟨gb, ob, none⟩) L) (hgb : gb ≠ g) (hb : bytesOk L) (hn : 1 ≤ n ∧ n ≤ 8) (hc : L.length ≤ c) (hL : L.length ≤ 1073741824) (hg : 4 ≤ g)
    {v : Int} {x : Int} (h : numX L n low high (.ok i) = (v, .error x)) :
    Calls Tryd.prog 56 #[.pointer (some ⟨g, 0, none⟩), .int .i64 n, .int .u64 low, .int .u64 high] w fun e w' => e = gaveUp x ∧ w.grownBy w' (some g) := by
  refine (num_or (fun e => e = x) g gb ob c L i n low high w hw H hi hA hgb hb hn hc hL hg (fun e he => by rw [h] at he; injection he with he; exact he.symm)).mono ?_
  rintro e w' ⟨gr, ⟨cc, rfl, rfl⟩ | ⟨v', j', h', _⟩⟩
  · exact ⟨rfl, gr⟩
  · rw [h] at h'
    simp at h'
theorem tk_yes (g gb ob c : Nat) (L : List Int) (i n : Nat) (w : World) (hw : Ok w) (H : PB w g (some ⟨gb, ob, none⟩) c L i) (hi : i ≤ L.length) (hA : BytesAt w (some ⟨gb, ob, none⟩) L) (hgb : gb ≠ g) (hn : n ≤ 1099511627776) (hc : L.length ≤ c) (hL : L.length ≤ 1073741824) (hg : 4 ≤ g)
    {bs : List Int} {j : Nat} (h : takeX L n (.ok i) = (bs, .ok j)) :
    Calls Tryd.prog 37 #[.pointer (some ⟨g, 0, none⟩), .int .i64 n] w fun e w' => ∃ o' d, e = .returned (.slice (some ⟨gb, o', none⟩) bs.length d) ∧ bs.length ≤ d ∧ BytesAt w' (some ⟨gb, o', none⟩) bs ∧ w.grownBy w' (some g) ∧ PB w' g (some ⟨gb, ob, none⟩) c L j := by
  refine (take_or (fun _ => False) g gb ob c L i n w hw H hi hA hgb hn hc hL hg (fun e he => by rw [h] at he; cases he)).mono ?_
  rintro e w' ⟨gr, ⟨cc, hcc, _⟩ | ⟨bs', o', d, h', rfl, hd, _, hB, HR, _⟩⟩
  · exact hcc.elim
  · rw [h] at h'
    simp only [Prod.mk.injEq, Except.ok.injEq] at h'
    obtain ⟨rfl, rfl⟩ := h'
    exact ⟨o', d, rfl, hd, hB, gr, HR⟩
theorem tk_no (g gb ob c : Nat) (L : List Int) (i n : Nat) (w : World) (hw : Ok w) (H : PB w g (some ⟨gb, ob, none⟩) c L i) (hi : i ≤ L.length) (hA : BytesAt w (some ⟨gb, ob, none⟩) L) (hgb : gb ≠ g) (hn : n ≤ 1099511627776) (hc : L.length ≤ c) (hL : L.length ≤ 1073741824) (hg : 4 ≤ g)
    {bs : List Int} {x : Int} (h : takeX L n (.ok i) = (bs, .error x)) :
    Calls Tryd.prog 37 #[.pointer (some ⟨g, 0, none⟩), .int .i64 n] w fun e w' => e = gaveUp x ∧ w.grownBy w' (some g) := by
  refine (take_or (fun e => e = x) g gb ob c L i n w hw H hi hA hgb hn hc hL hg (fun e he => by rw [h] at he; injection he with he; exact he.symm)).mono ?_
  rintro e w' ⟨gr, ⟨cc, rfl, rfl⟩ | ⟨bs', o', d, h', _⟩⟩
  · exact ⟨rfl, gr⟩
  · rw [h] at h'
    simp at h'
theorem pb_ne {w : World} {g : Nat} {A : Option Addr} {c : Nat} {L : List Int} {i : Nat} (h : PB w g A c L i) {base size n : Nat} {e : TypeId} {v : Value} {xs : List Value} (O : w.ownsRow base e size v n xs) (he : e ≠ 67) : some g ≠ v.ownBlock := own_ne3 O h he

theorem filledP {bs : List Int} (h : 0 < bs.length) (x y : Bool) : filledB bs x y = (no16 bs && !(x && bs.getD 0 0 == 0) && !(y && bs.getD (bs.length - 1) 0 == 0)) := by
  unfold filledB
  have h1 : bs.isEmpty = false := by cases bs with
    | nil => simp at h
    | cons _ _ => rfl
  have h2 : bs.headD 1 = bs.getD 0 0 := by cases bs with
    | nil => simp at h
    | cons _ _ => rfl
  have h3 : bs.getLastD 1 = bs.getD (bs.length - 1) 0 := by
    rw [List.getLastD_eq_getLast?, List.getLast?_eq_getElem?, List.getD_eq_getElem?_getD, List.getElem?_eq_getElem (show bs.length - 1 < bs.length by omega)]
    rfl
  rw [h1, h2, h3]; simp
/-- what data ends with: it gives up, or it tells the bytes -/
def DataOut (X : Int → Prop) (w : World) (B : Nat) (g : Nat) (A : Option Addr) (c : Nat) (L : List Int) (P : List Int × Er) (e : Ending) (w' : World) : Prop :=
  (∃ x, X x ∧ e = gaveUp x) ∨ ∃ bs j a d, P = (bs, .ok j) ∧ e = .returned (.slice a bs.length d) ∧ OwnB w' B (.slice a bs.length d) bs ∧ PB w' g A c L j ∧ j ≤ L.length

set_option maxHeartbeats 25600000 in
set_option maxRecDepth 100000 in
theorem pdata_any (X : Int → Prop) (g gb ob c : Nat) (L : List Int) (i : Nat) (w : World) (hw : Ok w) (H : PB w g (some ⟨gb, ob, none⟩) c L i) (hi : i ≤ L.length) (hA : BytesAt w (some ⟨gb, ob, none⟩) L) (hgb : gb ≠ g) (hb : bytesOk L) (hc : L.length ≤ c) (hL : L.length ≤ 1073741824) (hg : 4 ≤ g)
    (hX : ∀ e, (dataR L false (numX L 4 0 16777216 (.ok i)).1 (numX L 4 0 16777216 (.ok i)).2).2 = .error e → X e) :
    Calls Tryd.prog 71 #[.pointer (some ⟨g, 0, none⟩)] w fun e w' => w.grownBy w' (some g) ∧ DataOut X w w.heap.size g (some ⟨gb, ob, none⟩) c L (dataR L false (numX L 4 0 16777216 (.ok i)).1 (numX L 4 0 16777216 (.ok i)).2) e w' := by
  have hnr := numX_rg (L := L) (low := 0) (high := 16777216) (.inl (by omega)) (by omega) 4 (.ok i) hb
  obtain ⟨⟨n, on⟩, e1⟩ : ∃ p, numX L 4 0 16777216 (.ok i) = p := ⟨_, rfl⟩
  rw [e1] at hnr hX ⊢
  dsimp only at hnr hX ⊢
  have hgS : ∀ a, ((some ⟨gb, ob, none⟩) : Option Addr) = some a → some a.block ≠ some g := fun a e k => by injection e with e; subst e; injection k with k; exact hgb k
  have hgw : g < w.heap.size := (Array.getElem?_eq_some_iff.mp H).1
  cases on with
  | error x =>
    have hx : X x := hX x (by unfold dataR; rw [dataX_error])
    have HN := Lib.hid (num_no g gb ob c L i 4 0 16777216 w hw H hi hA hgb hb (by omega) hc hL hg e1)
    clear e1 hnr H hA hX
    go_enter Tryd.func71, Tryd.ntmps71
    go_wp2_with (go_at_call 56; refine HN.out.mono ?_; rintro e wx ⟨he, q⟩; unfold gaveUp at he; subst he)
    exact ⟨rfl, q, .inl ⟨x, hx, rfl⟩⟩
  | ok j =>
    obtain ⟨i0, ei, _, hjl⟩ := numX_on (j := j) (by rw [e1])
    have HN := Lib.hid (num_yes g gb ob c L i 4 0 16777216 w hw H hi hA hgb hb (by omega) hc hL hg e1)
    obtain ⟨PP, hPP⟩ : ∃ P, dataR L false n (.ok j) = P := ⟨_, rfl⟩
    rw [hPP] at hX ⊢
    unfold dataR at hPP
    have HPP := Lib.hid hPP
    have HX := Lib.hid hX
    have HBy := Lib.hid hb
    have hNy := Lib.hid (fun (W : World) (gr : w.grownBy W (some g)) i HR hi s lo hi' h1 v j h => num_yes g gb ob c L i s lo hi' W (hw.grown hg gr) HR hi (hA.grown gr hgS) hgb hb h1 hc hL hg (v := v) (j := j) h)
    have hNn := Lib.hid (fun (W : World) (gr : w.grownBy W (some g)) i HR hi s lo hi' h1 v x h => num_no g gb ob c L i s lo hi' W (hw.grown hg gr) HR hi (hA.grown gr hgS) hgb hb h1 hc hL hg (v := v) (x := x) h)
    have hTy := Lib.hid (fun (W : World) (gr : w.grownBy W (some g)) i HR hi k h1 bs j h => tk_yes g gb ob c L i k W (hw.grown hg gr) HR hi (hA.grown gr hgS) hgb h1 hc hL hg (bs := bs) (j := j) h)
    have hTn := Lib.hid (fun (W : World) (gr : w.grownBy W (some g)) i HR hi k h1 bs x h => tk_no g gb ob c L i k W (hw.grown hg gr) HR hi (hA.grown gr hgS) hgb h1 hc hL hg (bs := bs) (x := x) h)
    have hok := Lib.hid (fun (W : World) (gr : w.grownBy W (some g)) => hw.grown hg gr)
    obtain ⟨iy, hiy, hzy, hsy, hyy⟩ := info_byte
    have HIY := Lib.hid hiy
    have x1 : IntKind.i64.wrap n = n := IntWalk.i64_in _ ⟨by omega, by omega⟩
    clear e1 hPP hX hb H hA hiy
    go_enter Tryd.func71, Tryd.ntmps71
    go_upto_block 0 with (go_at_call 56; refine HN.out.mono ?_; rintro e wa ⟨rfl, gr, HR⟩)
    clear x1
    have GR := Lib.hid gr
    have HR0 := Lib.hid HR
    clear gr HR
    go_wp2_with fail
    go_loopg [4, 5] (n.toNat + 1) (fun k v4 v5 wc => ∃ (out : List Int) (a : Option Addr) (d : Nat) (last : Int) (j : Nat), Hid (dataX L false n k out.length out last (.ok j) = PP) ∧ (n - out.length).toNat < k ∧ (out.length : Int) ≤ n ∧ v4 = .slice a out.length d ∧ v5 = .int .i64 last ∧ -1 ≤ last ∧ last ≤ 1 ∧ j ≤ L.length ∧
      Hid (w.grownBy wc (some g)) ∧ Hid (PB wc g (some ⟨gb, ob, none⟩) c L j) ∧ Hid (OwnB wc w.heap.size (.slice a out.length d) out))
    case atStart => exact ⟨[], none, 0, -1, j, HPP, by simp, by simp; omega, rfl, rfl, by omega, by omega, hjl, GR, HR0, Lib.hid (OwnB.nil _ _)⟩
    case round =>
      clear GR HR0
      obtain ⟨out, a, d, last, j, HD, hfu, hon, rfl, rfl, hl0, hl1, hjl, gr, HR, O⟩ := hrel
      replace gr := gr.out
      replace HR := HR.out
      cases gk with
      | zero => exact absurd hfu (by omega)
      | succ k =>
        by_cases hend : n ≤ out.length
        · have d1 : decide ((out.length : Int) < n) = false := decide_eq_false (by omega)
          have hPo : PP = (out, .ok j) := by
            have h := HD.out
            simp only [dataX] at h
            rw [if_neg (by omega)] at h
            exact h.symm
          have HPo := Lib.hid hPo
          have HF := Lib.hid (And.intro gr (And.intro HR O.out))
          have hjl2 := hjl
          clear hPo gr O HD HR
          go_wp2
          go_ret
          exact ⟨HF.out.1, .inr ⟨out, j, a, d, HPo.out, rfl, HF.out.2.2, HF.out.2.1, hjl2⟩⟩
        · have htl : (out.length : Int) < n := by omega
          have d1 : decide ((out.length : Int) < n) = true := decide_eq_true htl
          have hH := HD.out
          simp only [dataX, if_pos htl] at hH
          have har := numX_rg (L := L) (low := 0) (high := 1) (.inl (by omega)) (by omega) 1 (.ok j) HBy.out
          obtain ⟨⟨av, a1⟩, b1⟩ : ∃ p, numX L 1 0 1 (.ok j) = p := ⟨_, rfl⟩
          rw [b1] at hH har
          dsimp only at hH har
          cases a1 with
          | error x =>
            have hx : Hid (X x) := Lib.hid (HX.out x (by rw [← hH]; rfl))
            have HN1 := Lib.hid (hNn.out wr gr j HR hjl 1 0 1 (by omega) av x b1)
            have HG := Lib.hid gr
            clear hH b1 HD gr HR O
            go_wp2_with (go_at_call 56; refine HN1.out.mono ?_; rintro e wx ⟨he, q⟩; unfold gaveUp at he; subst he; (have HQ := Lib.hid q); clear q)
            exact ⟨rfl, grown_trans HG.out HQ.out, .inl ⟨x, hx.out, rfl⟩⟩
          | ok j1 =>
            obtain ⟨_, _, _, hj1l⟩ := numX_on (j := j1) (by rw [b1])
            have hm1 := must_or
            have HN1 := Lib.hid (hNy.out wr gr j HR hjl 1 0 1 (by omega) av j1 b1)
            have wav : IntKind.i64.wrap av = av := IntWalk.i64_in _ ⟨by omega, by omega⟩
            clear b1 hm1
            by_cases hal : av = last
            · subst hal
              have d2 : (av != av) = false := bne_self_eq_false _
              have hx : Hid (X 191) := Lib.hid (HX.out 191 (by rw [← hH]; simp [orFail, numX_error]))
              have HG := Lib.hid gr
              clear hH HD gr HR O
              go_wp2_with (first
                | (go_at_call 56; refine HN1.out.mono ?_; rintro e wx ⟨rfl, q, _⟩; (have HQ := Lib.hid q); clear q)
                | (go_at_call 69; refine (must_no _ _).mono ?_; rintro e wy ⟨he, rfl⟩; unfold gaveUp at he; subst he))
              exact ⟨rfl, grown_trans HG.out HQ.out, .inl ⟨191, hx.out, rfl⟩⟩
            · have d2 : (av != last) = true := bne_iff_ne.2 hal
              rw [decide_eq_false hal] at hH
              rw [show orFail (.ok j1) false = .ok j1 from rfl] at hH
              obtain ⟨low, blo⟩ : ∃ p : Int, (if av = 0 then 16 else 1) = p := ⟨_, rfl⟩
              rw [blo] at hH
              have hkr := numX_rg (L := L) (low := low) (high := n - out.length) (.inr trivial) (by omega) 4 (.ok j1) HBy.out
              obtain ⟨⟨kv, k1⟩, b3⟩ : ∃ p, numX L 4 low (n - out.length) (.ok j1) = p := ⟨_, rfl⟩
              rw [b3] at hH hkr
              dsimp only at hH hkr
              have tok1 : True := trivial
              have HG := Lib.hid gr
              by_cases hav : av = 0
              · rw [if_pos hav] at blo
                subst hav blo
                have d3 : decide (n - (out.length : Int) < 0) = false := decide_eq_false (by omega)
                have wsb : IntKind.u64.wrap (n - (out.length : Int)) = n - (out.length : Int) := u64_in ⟨by omega, by omega⟩
                cases k1 with
                | error x =>
                  have hx : Hid (X x) := Lib.hid (HX.out x (by rw [← hH]))
                  clear hH HD O
                  go_wp2_with (first
                    | (go_at_call 56; have _t := tok1; refine HN1.out.mono ?_; rintro e wx ⟨rfl, q, HR1⟩; have gr1 := grown_trans HG.out q; clear q gr tok1; have tok2 : True := trivial)
                    | (go_at_call 69; refine (must_yes _ _).mono ?_; rintro e wy ⟨rfl, rfl⟩)
                    | (go_at_call 56; have _t := tok2; (have ct := hNn.out _ gr1 j1 HR1 hj1l 4 16 (n - out.length) (by omega) kv x b3); refine ct.mono ?_; rintro e wz ⟨he, q⟩; unfold gaveUp at he; subst he; (have HQ := Lib.hid (grown_trans gr1 q)); clear q))
                  exact ⟨rfl, HQ.out, .inl ⟨x, hx.out, rfl⟩⟩
                | ok j2 =>
                  obtain ⟨_, _, _, hj2l⟩ := numX_on (j := j2) (by rw [b3])
                  have hk16 := (numX_low b3).1
                  obtain ⟨m, hm⟩ : ∃ m : Nat, kv = (m : Int) := ⟨_, (Int.toNat_of_nonneg hkr.1).symm⟩
                  subst hm
                  dsimp only at hH
                  rw [if_neg (by decide), Int.toNat_natCast, if_neg (by decide)] at hH
                  have HH := Lib.hid hH
                  have wm : IntKind.i64.wrap (m : Int) = (m : Int) := IntWalk.i64_in _ ⟨by omega, by omega⟩
                  have B3 := Lib.hid b3
                  have hsz := gr.size
                  clear hH HD b3 wav
                  go_wp2_with (first
                    | (go_at_call 56; have _t := tok1; refine HN1.out.mono ?_; rintro e wx ⟨rfl, q, HR1⟩; have gr1 := grown_trans HG.out q; have O1 := O.out.keep q hgw; clear q gr HR tok1; have tok2 : True := trivial)
                    | (go_at_call 69; refine (must_yes _ _).mono ?_; rintro e wy ⟨rfl, rfl⟩)
                    | (go_at_call 56; have _t := tok2; (have ct := hNy.out _ gr1 j1 HR1 hj1l 4 16 (n - out.length) (by omega) m j2 B3.out); refine ct.mono ?_; rintro e wz ⟨rfl, q, HR2⟩; have gr2 := grown_trans gr1 q; have O2 := O1.keep q hgw; clear q gr1 HR1 O1 ct; go_loud (obtain ⟨v5, w5, hap, O5, q5, hob⟩ := append_zeros 22 w.heap.size _ out m (by omega) (by omega) wz O2 (by omega) gr2.size); (obtain ⟨a5, d5, hv5⟩ := O5.form); subst hv5; go_loud (have HF := Lib.hid (And.intro (grown_own gr2 q5 (fun k hk => (O2.lt hk).1)) (And.intro (HR2.grown q5 (pb_ne HR2 O2 (by decide))) O5))); clear O2 O5 q5 hob HR2 gr2)
                    | (at_builtin; refine wpList_append_run rfl _ _ 22 3 rfl (by simp [Act.eval]) (by simp [Act.eval]) hap ?_))
                  go_roundg k
                  case measure => omega
                  case rel =>
                    refine ⟨out ++ List.replicate m 0, a5, d5, 0, j2, Lib.hid ?_, ?_, ?_, by simp, rfl, by omega, by omega, hj2l, Lib.hid HF.out.1, Lib.hid HF.out.2.1, Lib.hid HF.out.2.2⟩
                    · have := HH.out
                      rw [List.length_append, List.length_replicate, Int.natCast_add]
                      exact this
                    · simp; omega
                    · simp; omega
              · obtain rfl : av = 1 := by omega
                rw [if_neg hav] at blo
                subst blo
                have wsb : IntKind.u64.wrap (n - (out.length : Int)) = n - (out.length : Int) := u64_in ⟨by omega, by omega⟩
                cases k1 with
                | error x =>
                  have hx : Hid (X x) := Lib.hid (HX.out x (by rw [← hH]))
                  clear hH HD O hav
                  go_wp2_with (first
                    | (go_at_call 56; have _t := tok1; refine HN1.out.mono ?_; rintro e wx ⟨rfl, q, HR1⟩; have gr1 := grown_trans HG.out q; clear q gr tok1; have tok2 : True := trivial)
                    | (go_at_call 69; refine (must_yes _ _).mono ?_; rintro e wy ⟨rfl, rfl⟩)
                    | (go_at_call 56; have _t := tok2; (have ct := hNn.out _ gr1 j1 HR1 hj1l 4 1 (n - out.length) (by omega) kv x b3); refine ct.mono ?_; rintro e wz ⟨he, q⟩; unfold gaveUp at he; subst he; (have HQ := Lib.hid (grown_trans gr1 q)); clear q))
                  exact ⟨rfl, HQ.out, .inl ⟨x, hx.out, rfl⟩⟩
                | ok j2 =>
                  obtain ⟨_, _, _, hj2l⟩ := numX_on (j := j2) (by rw [b3])
                  have hk1 := (numX_low b3).1
                  obtain ⟨m, hm⟩ : ∃ m : Nat, kv = (m : Int) := ⟨_, (Int.toNat_of_nonneg hkr.1).symm⟩
                  subst hm
                  have wm : IntKind.i64.wrap (m : Int) = (m : Int) := IntWalk.i64_in _ ⟨by omega, by omega⟩
                  dsimp only at hH
                  rw [if_pos rfl, Int.toNat_natCast, if_neg (by decide)] at hH
                  have B3 := Lib.hid b3
                  have hsz := gr.size
                  obtain ⟨⟨bs, o3⟩, b4⟩ : ∃ p, takeX L m (.ok j2) = p := ⟨_, rfl⟩
                  rw [b4] at hH
                  dsimp only at hH
                  have tok5 : True := trivial
                  clear b3 wav hav
                  cases o3 with
                  | error x =>
                    have hx : Hid (X x) := Lib.hid (HX.out x (by rw [← hH]; simp [orFail, dataX_error]))
                    have B4 := Lib.hid b4
                    clear hH HD O b4
                    go_wp2_with (first
                      | (go_at_call 56; have _t := tok1; refine HN1.out.mono ?_; rintro e wx ⟨rfl, q, HR1⟩; have gr1 := grown_trans HG.out q; clear q gr HR tok1; have tok2 : True := trivial)
                      | (go_at_call 69; refine (must_yes _ _).mono ?_; rintro e wy ⟨rfl, rfl⟩)
                      | (go_at_call 56; have _t := tok2; (have ct := hNy.out _ gr1 j1 HR1 hj1l 4 1 (n - out.length) (by omega) m j2 B3.out); refine ct.mono ?_; rintro e wz ⟨rfl, q, HR2⟩; have gr2 := grown_trans gr1 q; clear q gr1 HR1 ct)
                      | (go_at_call 37; (have ct := hTn.out _ gr2 j2 HR2 hj2l m (by omega) bs x B4.out); refine ct.mono ?_; rintro e wz2 ⟨he, q⟩; unfold gaveUp at he; subst he; (have HQ := Lib.hid (grown_trans gr2 q)); clear q))
                    exact ⟨rfl, HQ.out, .inl ⟨x, hx.out, rfl⟩⟩
                  | ok j3 =>
                    have hbl := takeX_len b4
                    obtain ⟨hbl, hj3l, _⟩ := hbl
                    subst hbl
                    have B4 := Lib.hid b4
                    have hbp : 0 < bs.length := by omega
                    have hfe := filledP hbp (decide (last = 0)) (decide ((out.length : Int) + (bs.length : Int) < n))
                    obtain ⟨fb, hfb⟩ : ∃ f, filledB bs (decide (last = 0)) (decide ((out.length : Int) + (bs.length : Int) < n)) = f := ⟨_, rfl⟩
                    rw [hfb] at hH hfe
                    obtain ⟨b0, hb0⟩ : ∃ b, bs.getD 0 0 = b := ⟨_, rfl⟩
                    obtain ⟨bl, hbl⟩ : ∃ b, bs.getD (bs.length - 1) 0 = b := ⟨_, rfl⟩
                    rw [hb0, hbl] at hfe
                    obtain ⟨e2, he2⟩ : ∃ b, (last == 0) = b := ⟨_, rfl⟩
                    have he2' : decide (last = 0) = e2 := by rw [← he2]; rfl
                    obtain ⟨e3, he3⟩ : ∃ b, (b0 == 0) = b := ⟨_, rfl⟩
                    obtain ⟨e4, he4⟩ : ∃ b, decide ((out.length : Int) + (bs.length : Int) < n) = b := ⟨_, rfl⟩
                    obtain ⟨e5, he5⟩ : ∃ b, (bl == 0) = b := ⟨_, rfl⟩
                    obtain ⟨e6, he6⟩ : ∃ b, no16 bs = b := ⟨_, rfl⟩
                    rw [he2', he3, he4, he5, he6] at hfe
                    have HFE := Lib.hid hfe
                    have HH := Lib.hid hH
                    have E6 := Lib.hid he6
                    have B0 := Lib.hid hb0
                    have BL := Lib.hid hbl
                    have wb1 : IntKind.i64.wrap ((bs.length : Int) - 1) = (bs.length : Int) - 1 := IntWalk.i64_in _ ⟨by omega, by omega⟩
                    have ws1 : IntKind.i64.wrap ((out.length : Int) + (bs.length : Int)) = (out.length : Int) + (bs.length : Int) := IntWalk.i64_in _ ⟨by omega, by omega⟩
                    have i0 : (0 : Int) < (bs.length : Int) := by omega
                    have i1 : (0 : Int) ≤ (bs.length : Int) - 1 := by omega
                    have i2 : (bs.length : Int) - 1 < (bs.length : Int) := by omega
                    clear hH HD b4 hfe hfb hb0 hbl he2' he6
                    go_upto_region 15 with (first
                      | (go_at_call 56; have _t := tok1; refine HN1.out.mono ?_; rintro e wx ⟨rfl, q, HR1⟩; have gr1 := grown_trans HG.out q; have O1 := O.out.keep q hgw; clear q gr HR tok1; have tok2 : True := trivial)
                      | (go_at_call 69; refine (must_yes _ _).mono ?_; rintro e wy ⟨rfl, rfl⟩)
                      | (go_at_call 56; have _t := tok2; (have ct := hNy.out _ gr1 j1 HR1 hj1l 4 1 (n - out.length) (by omega) bs.length j2 B3.out); refine ct.mono ?_; rintro e wz ⟨rfl, q, HR2⟩; have gr2 := grown_trans gr1 q; have O2 := O1.keep q hgw; clear q gr1 HR1 O1 ct)
                      | (go_at_call 37; (have ct := hTy.out _ gr2 j2 HR2 hj2l bs.length (by omega) bs j3 B4.out); refine ct.mono ?_; rintro e wt ⟨o', dt, rfl, hdt, hBt, q, HR3⟩; have gr3 := grown_trans gr2 q; have O3 := O2.keep q hgw; clear q gr2 HR2 O2 ct)
                      | (go_at_call 79; (have ct := nextHole_any _ dt bs hdt (by omega) wt (hok.out _ gr3) hBt); refine ct.mono ?_; rintro e wn ⟨r1, r2, rfl, hr1, q⟩; have gr4 := grown_fr gr3 q; have O4 := O3.fr q; have HB4 := hBt.fr q; have HR4 := HR3.fr q; rw [E6.out] at hr1; clear q gr3 O3 HR3 ct))
                    have k0 := bytes_cell HB4 0 hbp
                    have kl := bytes_cell HB4 (bs.length - 1) (by omega)
                    rw [B0.out, Nat.add_zero] at k0
                    rw [BL.out] at kl
                    have HF4 := Lib.hid (And.intro gr4 (And.intro O4 (And.intro HB4 HR4)))
                    clear gr4 O4 HB4 HR4 hBt wb1
                    have wb1 : IntKind.i64.wrap ((bs.length : Int) - 1) = (bs.length : Int) - 1 := IntWalk.i64_in _ ⟨by omega, by omega⟩
                    have hxf : fb = false → X 191 := fun h => HX.out 191 (by
                      rw [← HH.out, h]; simp [orFail, dataX_error])
                    have HXF := Lib.hid hxf
                    clear hxf
                    go_cut [] (fun wc => fb = true ∧ wc = wn)
                    case first =>
                      cases e6 with
                      | false =>
                        have hfb : fb = false := by rw [HFE.out]; rfl
                        have hx := Lib.hid (HXF.out hfb)
                        clear hfb
                        go_wp2_with (go_at_call 69; refine (must_no _ _).mono ?_; rintro e wy ⟨he, rfl⟩; unfold gaveUp at he; subst he)
                        exact ⟨rfl, HF4.out.1, .inl ⟨191, hx.out, rfl⟩⟩
                      | true =>
                        cases e2 with
                        | false =>
                          cases e4 with
                          | false =>
                            go_wp2_with (go_at_call 69; refine (must_yes _ _).mono ?_; rintro e wy ⟨rfl, rfl⟩)
                            go_meet
                            exact ⟨by rw [HFE.out]; rfl, rfl⟩
                          | true =>
                            cases e5 with
                            | true =>
                              have hfb : fb = false := by rw [HFE.out]; rfl
                              have hx := Lib.hid (HXF.out hfb)
                              clear hfb
                              go_wp2_with (go_at_call 69; refine (must_no _ _).mono ?_; rintro e wy ⟨he, rfl⟩; unfold gaveUp at he; subst he)
                              exact ⟨rfl, HF4.out.1, .inl ⟨191, hx.out, rfl⟩⟩
                            | false =>
                              go_wp2_with (go_at_call 69; refine (must_yes _ _).mono ?_; rintro e wy ⟨rfl, rfl⟩)
                              go_meet
                              exact ⟨by rw [HFE.out]; rfl, rfl⟩
                        | true =>
                          cases e3 with
                          | true =>
                            have hfb : fb = false := by rw [HFE.out]; rfl
                            have hx := Lib.hid (HXF.out hfb)
                            clear hfb
                            go_wp2_with (go_at_call 69; refine (must_no _ _).mono ?_; rintro e wy ⟨he, rfl⟩; unfold gaveUp at he; subst he)
                            exact ⟨rfl, HF4.out.1, .inl ⟨191, hx.out, rfl⟩⟩
                          | false =>
                            cases e4 with
                            | false =>
                              go_wp2_with (go_at_call 69; refine (must_yes _ _).mono ?_; rintro e wy ⟨rfl, rfl⟩)
                              go_meet
                              exact ⟨by rw [HFE.out]; rfl, rfl⟩
                            | true =>
                              cases e5 with
                              | true =>
                                have hfb : fb = false := by rw [HFE.out]; rfl
                                have hx := Lib.hid (HXF.out hfb)
                                clear hfb
                                go_wp2_with (go_at_call 69; refine (must_no _ _).mono ?_; rintro e wy ⟨he, rfl⟩; unfold gaveUp at he; subst he)
                                exact ⟨rfl, HF4.out.1, .inl ⟨191, hx.out, rfl⟩⟩
                              | false =>
                                go_wp2_with (go_at_call 69; refine (must_yes _ _).mono ?_; rintro e wy ⟨rfl, rfl⟩)
                                go_meet
                                exact ⟨by rw [HFE.out]; rfl, rfl⟩
                    case rest =>
                      obtain ⟨hft, rfl⟩ := hcut
                      subst hft
                      obtain ⟨v5, w5, hap, O5, q5, hob⟩ := append_src Tryd.underlying22 HIY.out hzy hsy hyy rfl (by decide) 22 HF4.out.2.1 (some ⟨gb, o', none⟩) bs.length dt _ (bytes_src HF4.out.2.2.1 (fun h => by cases h)) (by simp) (map_one bs) (by unfold maxLen; omega) (by omega) HF4.out.1.size
                      have hO5 : OwnB w5 w.heap.size v5 (out ++ bs) := by unfold OwnB; rw [List.length_append, List.map_append]; exact O5
                      obtain ⟨a5, d5, hv5⟩ := hO5.form
                      subst hv5
                      have HF := Lib.hid (And.intro (grown_own HF4.out.1 q5 (fun k hk => (OwnB.lt HF4.out.2.1 hk).1)) (And.intro (HF4.out.2.2.2.grown q5 (pb_ne HF4.out.2.2.2 HF4.out.2.1 (by decide))) hO5))
                      clear O5 q5 hob hO5 k0 kl HFE
                      go_wp2_with (at_builtin; refine wpList_append_run rfl _ _ 22 22 rfl (by simp [Act.eval]) (by simp [Act.eval]) hap ?_)
                      go_roundg k
                      case measure => omega
                      case rel =>
                        refine ⟨out ++ bs, a5, d5, 1, j3, Lib.hid ?_, ?_, ?_, by simp, rfl, by omega, by omega, hj3l, Lib.hid HF.out.1, Lib.hid HF.out.2.1, Lib.hid HF.out.2.2⟩
                        · have := HH.out
                          rw [List.length_append, Int.natCast_add]
                          exact this
                        · simp; omega
                        · simp; omega
end Go.Proofs.YtlnaeppbhjmocaaDoor
set_option linter.unusedSimpArgs false
set_option linter.unusedVariables false
namespace Go.Proofs.YtlnaeppbhjmocaaDoor
open Go.RowKit Go.Proofs

theorem getbang (s : ByteArray) (i : Nat) (h : i < s.size) : s.get! i = s[i]'h := by
  simp [ByteArray.get!, getElem!_pos, h]
  rfl
/-- what a byte from 128 on begins -/
theorem decode_high (s : ByteArray) (i : Nat) (h : i < s.size) (hb : 128 ≤ (s[i]'h).toNat) :
    ∃ r n : Nat, Utf8.decode s i = (r, n) ∧ 128 ≤ r ∧ Utf8.valid r = true ∧ 1 ≤ n ∧ i + n ≤ s.size ∧ ∀ j (hj : j < s.size), i ≤ j → j < i + n → 128 ≤ (s[j]'hj).toNat := by
  have hd := Lib.decode_at s i
  have e0 := getbang s i h
  have v : ∀ c : Nat, (c < 55296 ∨ (57344 ≤ c ∧ c ≤ 1114111)) → Utf8.valid (c : Int) = true := fun c hc => by
    rw [validRune_eq]; unfold validRune; rw [decide_eq_true]; omega
  have one : ∀ j (hj : j < s.size), i ≤ j → j < i + 1 → 128 ≤ (s[j]'hj).toNat := fun j hj h1 h2 => by
    obtain rfl : j = i := by omega
    exact hb
  have nxt : ∀ k, i + k < s.size → (s.get! (i + k)).toNat / 64 = 2 → ∀ (hj : i + k < s.size), 128 ≤ (s[i + k]'hj).toNat := fun k hk h2 hj => by
    rw [getbang s (i + k) hk] at h2; omega
  rw [e0] at hd
  unfold Lib.decodeN at hd
  rw [if_neg (by omega)] at hd
  split at hd
  · rename_i c
    split at hd
    · refine ⟨_, _, hd, by omega, v _ (by omega), by omega, by omega, fun j hj h1 h2 => ?_⟩
      by_cases e : j = i
      · subst e; exact hb
      · obtain rfl : j = i + 1 := by omega
        exact nxt 1 (by omega) c.2.2 hj
    · exact ⟨_, _, hd, by omega, v _ (by omega), by omega, by omega, one⟩
  split at hd
  · rename_i c
    split at hd
    · refine ⟨_, _, hd, by omega, v _ (by omega), by omega, by omega, fun j hj h1 h2 => ?_⟩
      have hj3 : j = i ∨ j = i + 1 ∨ j = i + 2 := by omega
      rcases hj3 with rfl | rfl | rfl
      · exact hb
      · exact nxt 1 (by omega) c.2.1.2 hj
      · exact nxt 2 (by omega) c.2.2.2 hj
    · exact ⟨_, _, hd, by omega, v _ (by omega), by omega, by omega, one⟩
  split at hd
  · rename_i c
    split at hd
    · refine ⟨_, _, hd, by omega, v _ (by omega), by omega, by omega, fun j hj h1 h2 => ?_⟩
      have hj3 : j = i ∨ j = i + 1 ∨ j = i + 2 ∨ j = i + 3 := by omega
      rcases hj3 with rfl | rfl | rfl | rfl
      · exact hb
      · exact nxt 1 (by omega) c.2.1.2 hj
      · exact nxt 2 (by omega) c.2.2.1.2 hj
      · exact nxt 3 (by omega) c.2.2.2.2 hj
    · exact ⟨_, _, hd, by omega, v _ (by omega), by omega, by omega, one⟩
  · exact ⟨_, _, hd, by omega, v _ (by omega), by omega, by omega, one⟩

def sl0 : ByteArray := ⟨#[47, 0]⟩
theorem fr_iter {w0 w : World} (f : Fr w0 w) (s : ByteArray) (p : Nat) : Fr w0 (w.iter s p) := f.alloc _

set_option maxHeartbeats 1600000 in
set_option maxRecDepth 1000000 in
theorem indexRune_bad (w : World) (hw : Ok w) : Calls Tryd.prog 109 #[.string ⟨#[47, 0]⟩, .int .i32 65533] w fun e w' => e = .returned (.int .i64 (-1)) ∧ Fr w w' := by
  have f := Fr.refl hw
  have n0 := fun ty => run_next_ascii (P := Tryd.prog) w sl0 0 ty (by decide) (by decide)
  have n1 := fun ty => run_next_ascii (P := Tryd.prog) w sl0 1 ty (by decide) (by decide)
  have n2 := fun ty => run_next_end (P := Tryd.prog) w sl0 2 ty (by decide)
  have b0 : ((sl0[0]'(by decide)).toNat : Int) = 47 := rfl
  have b1 : ((sl0[1]'(by decide)).toNat : Int) = 0 := rfl
  rw [b0] at n0
  rw [b1] at n1
  unfold sl0 at *
  clear b0 b1
  go_enter Tryd.func109, Tryd.ntmps109
  go_wp2_with fail
  go_loopg [5, 6] 2 (fun q _ _ W => ∃ i : Nat, Hid (q = 2 - i ∧ i ≤ 2) ∧ W = w.iter ⟨#[47, 0]⟩ i)
  case atStart => exact ⟨0, Lib.hid ⟨rfl, by omega⟩, rfl⟩
  case round =>
    obtain ⟨i, hq, rfl⟩ := hrel
    obtain ⟨rfl, hi⟩ := hq.out
    clear hq
    have h3 : i = 0 ∨ i = 1 ∨ i = 2 := by omega
    clear hi
    rcases h3 with rfl | rfl | rfl
    · go_wp2_with fail
      go_roundg 1
      case measure => omega
      case rel => exact ⟨1, Lib.hid ⟨rfl, by omega⟩, rfl⟩
    · go_wp2_with fail
      go_roundg 0
      case measure => omega
      case rel => exact ⟨2, Lib.hid ⟨rfl, by omega⟩, rfl⟩
    · go_wp2_with fail
      go_ret
      exact ⟨rfl, fr_iter f _ _⟩

theorem ib_none (s : ByteArray) (b : UInt8) (hs : s.data.toList = []) (w : World) (hw : Ok w) : Calls Tryd.prog 77 #[.string s, .int .u8 b.toNat] w fun e w' => e = .returned (.int .i64 (-1)) ∧ Fr w w' :=
  (Tryd.strings_IndexByte s b.toNat w).mono fun _ _ ⟨he, hw'⟩ => ⟨by rw [he, hs]; rfl, by rw [hw']; exact Fr.refl hw⟩
set_option maxHeartbeats 1600000 in
set_option maxRecDepth 1000000 in
theorem indexRune_high (r : Nat) (h128 : 128 ≤ r) (hv : Utf8.valid (r : Int) = true) (w : World) (hw : Ok w) : Calls Tryd.prog 109 #[.string ⟨#[47, 0]⟩, .int .i32 r] w fun e w' => e = .returned (.int .i64 (-1)) ∧ Fr w w' := by
  by_cases hbad : r = 65533
  · subst hbad; exact indexRune_bad w hw
  · have f := Fr.refl hw
    obtain ⟨z2, z4, z5⟩ := encode_facts r hv (by omega)
    have hvr : Lib.validRune (r : Int) = true := by
      have := hv
      rw [validRune_eq] at this
      exact this
    have hmax : r ≤ 1114111 := by
      have := hv
      rw [validRune_eq] at this
      unfold validRune at this
      have := of_decide_eq_true this
      omega
    have hb : ((r : Int) == 65533) = false := by rw [beq_eq_false_iff_ne]; omega
    have h0 : (0 : Int) ≤ (r : Int) := by omega
    have h1 : ¬ ((r : Int) < 128) := by omega
    have hd : decide ((r : Int) < 128) = false := decide_eq_false h1
    clear hbad h1
    obtain ⟨rs, hrs⟩ : ∃ rs, Utf8.encode (r : Int) = rs := ⟨_, rfl⟩
    rw [hrs] at z2 z4 z5
    have Z5 := Lib.hid z5
    clear z5
    have s3 : rs.size = 2 ∨ rs.size = 3 ∨ rs.size = 4 := by omega
    clear z2 z4
    have HV := Lib.hid hv
    clear hv
    rcases s3 with hs | hs | hs
    · have h12 : 1 < rs.size := by omega
      obtain ⟨b, hbx⟩ : ∃ b : UInt8, (rs[1]'h12) = b := ⟨_, rfl⟩
      have hx : 128 ≤ b.toNat := by
        have := Z5.out (by omega)
        rw [← hbx]
        have e : rs.size - 1 = 1 := by omega
        simpa only [e] using this
      have hsz : ((rs.size : Int)) = 2 := by omega
      have hne : ((((⟨#[47, 0]⟩ : ByteArray)[1]'(by decide)).toNat : Int) != (b.toNat : Int)) = true := by
        have : (((⟨#[47, 0]⟩ : ByteArray)[1]'(by decide)).toNat : Int) = 0 := rfl
        rw [this]; simp; omega
      have h12' : (1 : Int) < (rs.size : Int) := by omega
      go_enter Tryd.func109, Tryd.ntmps109
      go_wp2_with (go_at_call 117; refine (Tryd.utf8_ValidRune _ _).mono ?_; rintro e w' ⟨rfl, rfl⟩)
      go_step3
      go_wp2_with fail
      refine wp_loop_rounds 1 ?_
      rw [rounds_succ]
      go_wp2_with fail
      go_step3
      go_wp2_with fail
      refine wp_region_quiet_below (by kernel_rfl) (by kernel_rfl) ?_
      repeat (go_big_quiet_step (fail))
      refine wpQuiet_nil ?_
      intro wq hwq
      have q := Fr.regrown f.ok hwq
      clear hwq
      replace f := f.trans q
      clear q
      go_wp2_with fail
      refine wp_region_quiet_below (by kernel_rfl) (by kernel_rfl) ?_
      repeat (go_big_quiet_step (first | (go_at_call 77; exact qfr (ib_none _ b (by rfl) _ (okR f.ok _ _)))))
      refine wpQuiet_nil ?_
      intro wq hwq
      have q := Fr.regrown f.ok hwq
      clear hwq
      replace f := f.trans q
      clear q
      go_wp2_with fail
      rw [Exit.noGoto_ret]
      go_wp2_with fail
      rw [Exit.noGoto_ret]
      go_ret
      exact ⟨rfl, f⟩
    · go_enter Tryd.func109, Tryd.ntmps109
      go_wp2_with (go_at_call 117; refine (Tryd.utf8_ValidRune _ _).mono ?_; rintro e w' ⟨rfl, rfl⟩)
      go_step3
      go_wp2_with fail
      refine wp_loop_rounds 1 ?_
      rw [rounds_succ]
      go_wp2_with fail
      rw [Exit.noGoto_ret]
      go_ret
      exact ⟨rfl, f⟩
    · go_enter Tryd.func109, Tryd.ntmps109
      go_wp2_with (go_at_call 117; refine (Tryd.utf8_ValidRune _ _).mono ?_; rintro e w' ⟨rfl, rfl⟩)
      go_step3
      go_wp2_with fail
      refine wp_loop_rounds 1 ?_
      rw [rounds_succ]
      go_wp2_with fail
      rw [Exit.noGoto_ret]
      go_ret
      exact ⟨rfl, f⟩

/-- the iterator's next step, wherever the iterator lies -/
def nextW (W : World) (g : Nat) (s : ByteArray) (p : Nat) : World := { W with heap := W.heap.setIfInBounds g (.stringIter s p) }
theorem run_next_at {P : Program} (W : World) (g : Nat) (s : ByteArray) (pos : Nat) (ty : TypeId) (H : W.heap[g]? = some (.stringIter s pos)) (h : pos < s.size) :
    (Instr.next (.pointer (some ⟨g, 0, none⟩)) true ty).run P W = .ok (.tuple #[.bool true, .int .i64 pos, .int .i32 ((Utf8.decode s pos).1 : Nat)]) (nextW W g s (pos + (Utf8.decode s pos).2)) := by
  simp only [Instr.next, getObj, setObj, Sem.run_bind, Sem.run, H, Result.andThen, h, if_true]
  simp [goInt, Sem.run, H, nextW]
theorem run_next_at_end {P : Program} (W : World) (g : Nat) (s : ByteArray) (pos : Nat) (ty : TypeId) (H : W.heap[g]? = some (.stringIter s pos)) (h : ¬ pos < s.size) :
    (Instr.next (.pointer (some ⟨g, 0, none⟩)) true ty).run P W = .ok (.tuple #[.bool false]) W := by
  simp [Instr.next, getObj, Sem.run, H, h]
theorem fr_next {w W : World} {g : Nat} (f : Fr w W) (hw : Ok w) (hg : w.heap.size ≤ g) (s : ByteArray) (p : Nat) : Fr w (nextW W g s p) :=
  Fr.of hw ⟨f.below.os, f.below.tape, f.below.output, by have := f.below.size; simpa [nextW] using this, fun k hk => by
    have h1 := f.below.block k hk
    simp only [nextW]
    rw [Array.getElem?_setIfInBounds_ne (by omega)]; exact h1⟩
theorem next_heap {W : World} {g : Nat} {s : ByteArray} {q : Nat} (H : W.heap[g]? = some (.stringIter s q)) (p : Nat) : (nextW W g s p).heap[g]? = some (.stringIter s p) := by
  have hlt := (Array.getElem?_eq_some_iff.1 H).1
  simp [nextW, hlt]

/-- no byte of s ahead of i is one of the two -/
theorem noneOf_take (s : List UInt8) : Lib.NoAny s [47, 0] s.length ↔ noneOf s = true := by
  unfold noneOf Lib.NoAny
  rw [List.all_eq_true]
  constructor
  · intro h x hx
    obtain ⟨j, hj, rfl⟩ := List.getElem_of_mem hx
    have := h j s[j] hj (List.getElem?_eq_getElem hj)
    simp at this ⊢
    exact ⟨this.2, this.1⟩
  · intro h j b hj hb
    have := h b (List.mem_of_getElem? hb)
    simp at this ⊢
    exact ⟨this.2, this.1⟩

set_option maxHeartbeats 3200000 in
set_option maxRecDepth 1000000 in
theorem indexAny_short (s : ByteArray) (h8 : s.size ≤ 8) (w : World) (hw : Ok w) : Calls Tryd.prog 103 #[.string s, .string ⟨#[47, 0]⟩] w fun e w' => (∃ i : Int, e = .returned (.int .i64 i) ∧ decide (0 ≤ i) = !noneOf s.data.toList) ∧ Fr w w' := by
  have f := Fr.refl hw
  have h8z : decide ((8 : Int) < (s.size : Int)) = false := decide_eq_false (by omega)
  obtain ⟨g, hg⟩ : ∃ g, w.heap.size = g := ⟨_, rfl⟩
  have H0 : (w.iter s 0).heap[g]? = some (.stringIter s 0) := by rw [← hg]; exact World.iter_heap w s 0
  obtain ⟨wi, hwi⟩ : ∃ wi, w.iter s 0 = wi := ⟨_, rfl⟩
  have fi : Fr w wi := by rw [← hwi]; exact fr_iter f s 0
  rw [hwi] at H0
  have hgw : w.heap.size ≤ g := by omega
  go_enter Tryd.func103, Tryd.ntmps103
  go_wp2_with (go_at_call 110; refine (Tryd.strings_shouldUseASCIISet _ _).mono ?_; rintro e w' ⟨rfl, hw'⟩; rw [hw', h8z])
  go_loopg [9, 10] s.size (fun q _ _ W => ∃ i : Nat, Hid (q = s.size - i ∧ i ≤ s.size) ∧ W.heap[g]? = some (.stringIter s i) ∧ Fr w W ∧ Hid (Lib.NoAny s.data.toList [47, 0] i))
  case atStart => exact ⟨0, Lib.hid ⟨rfl, by omega⟩, H0, fi, Lib.hid (Lib.NoAny.zero _ _)⟩
  case round =>
    clear H0 fi
    obtain ⟨i, hq, H, f, HN⟩ := hrel
    obtain ⟨rfl, hi⟩ := hq.out
    clear hq
    by_cases hlt : i < s.size
    · have hnx := fun ty => run_next_at (P := Tryd.prog) wr g s i ty H hlt
      by_cases hx : (s[i]'hlt).toNat < 128
      · rw [decode_ascii s i hlt hx] at hnx
        dsimp only at hnx
        have f5 := fr_next f hw hgw s (i + 1)
        have H5 := next_heap H (i + 1)
        obtain ⟨w5, hw5⟩ : ∃ w5, nextW wr g s (i + 1) = w5 := ⟨_, rfl⟩
        rw [hw5] at f5 H5
        rw [hw5] at hnx
        obtain ⟨c, hc⟩ : ∃ c : UInt8, s[i]'hlt = c := ⟨_, rfl⟩
        rw [hc] at hnx hx
        have hmem : c ∈ s.data.toList := by rw [← hc]; exact Array.getElem_mem_toList (xs := s.data) hlt
        have hget : s.data.toList[i]? = some c := by rw [← hc]; exact Lib.data_getElem? s i hlt
        have hHit : (c = 47 ∨ c = 0) → Hid (noneOf s.data.toList = false) := fun h => Lib.hid (by
          cases hn : noneOf s.data.toList with
          | false => rfl
          | true =>
            unfold noneOf at hn
            have := List.all_eq_true.1 hn c hmem
            rcases h with rfl | rfl <;> simp at this)
        have hMiss : ¬ (c = 47 ∨ c = 0) → Hid (Lib.NoAny s.data.toList [47, 0] (i + 1)) := fun h => Lib.hid (HN.out.succ hget (by simp; exact not_or.1 h))
        have e47 : Lib.indexByte [47, 0] 47 = 0 := by decide
        have e0 : Lib.indexByte [47, 0] 0 = 1 := by decide
        have eN : ¬ (c = 47 ∨ c = 0) → Lib.indexByte [47, 0] c = -1 := fun h => by
          have h1 : (47 == c) = false := by rw [beq_eq_false_iff_ne]; exact fun e => h (.inl e.symm)
          have h2 : (0 == c) = false := by rw [beq_eq_false_iff_ne]; exact fun e => h (.inr e.symm)
          simp [Lib.indexByte, h1, h2]
        have CR : ∀ v, Lib.indexByte [47, 0] c = v → ∀ w : World, Calls Tryd.prog 109 #[.string ⟨#[47, 0]⟩, .int .i32 (c.toNat : Nat)] w fun e w' => e = .returned (.int .i64 v) ∧ w = w' := fun v hv w =>
          (Tryd.strings_IndexRune_ascii ⟨#[47, 0]⟩ c.toNat w (by omega) (by omega)).mono fun e w' ⟨he, hw'⟩ => ⟨by rw [he, ← hv]; simp, hw'.symm⟩
        clear hmem hget hc H f
        by_cases hcc : c = 47 ∨ c = 0
        · obtain ⟨v, hv, hv0⟩ : ∃ v : Int, Lib.indexByte [47, 0] c = v ∧ 0 ≤ v := by
            rcases hcc with rfl | rfl
            · exact ⟨0, e47, by omega⟩
            · exact ⟨1, e0, by omega⟩
          have CV := Lib.hid (CR v hv)
          have HZ := hHit hcc
          clear hHit hMiss e47 e0 eN CR hcc hv HN
          go_wp2_with (go_at_call 109; refine (CV.out _).mono ?_; rintro e wx ⟨rfl, rfl⟩)
          go_ret
          exact ⟨⟨i, rfl, by rw [HZ.out]; exact decide_eq_true (by omega)⟩, f5⟩
        · have CV := Lib.hid (CR (-1) (eN hcc))
          have HM := hMiss hcc
          clear hHit hMiss e47 e0 eN CR hcc HN
          go_wp2_with (go_at_call 109; refine (CV.out _).mono ?_; rintro e wx ⟨rfl, rfl⟩)
          go_roundg (s.size - (i + 1))
          case measure => omega
          case rel => exact ⟨i + 1, Lib.hid ⟨rfl, by omega⟩, H5, f5, HM⟩
      · obtain ⟨r, n, hdec, hr, hv, hn1, hin, hall⟩ := decode_high s i hlt (by omega)
        rw [hdec] at hnx
        dsimp only at hnx
        have f5 := fr_next f hw hgw s (i + n)
        have H5 := next_heap H (i + n)
        obtain ⟨w5, hw5⟩ : ∃ w5, nextW wr g s (i + n) = w5 := ⟨_, rfl⟩
        rw [hw5] at f5 H5
        rw [hw5] at hnx
        have HM : Hid (Lib.NoAny s.data.toList [47, 0] (i + n)) := Lib.hid (fun j b hj hb => by
          by_cases hji : j < i
          · exact HN.out j b hji hb
          · have hjs : j < s.size := by omega
            have h1 := hall j hjs (by omega) hj
            have h2 : s.data.toList[j]? = some (s[j]'hjs) := Lib.data_getElem? s j hjs
            rw [h2] at hb
            injection hb with hb
            rw [hb] at h1
            simp
            constructor <;> (rintro rfl; simp at h1))
        have CV := Lib.hid (indexRune_high r hr hv)
        clear hall HN H f hx hdec
        go_wp2_with (go_at_call 109; refine (CV.out _ f5.ok).mono ?_; rintro e wx ⟨rfl, q⟩; replace H5 := q.heap H5; replace f5 := f5.trans q; clear q)
        go_roundg (s.size - (i + n))
        case measure => omega
        case rel => exact ⟨i + n, Lib.hid ⟨rfl, by omega⟩, H5, f5, HM⟩
    · obtain rfl : i = s.size := by omega
      have hnx := fun ty => run_next_at_end (P := Tryd.prog) wr g s s.size ty H (by omega)
      have HZ : Hid (noneOf s.data.toList = true) := Lib.hid ((noneOf_take _).1 (by have := HN.out; rwa [show s.data.toList.length = s.size from Array.length_toList]))
      clear HN
      go_wp2_with fail
      go_ret
      exact ⟨⟨-1, rfl, by rw [HZ.out]; rfl⟩, f⟩
end Go.Proofs.YtlnaeppbhjmocaaDoor
set_option linter.unusedSimpArgs false
set_option linter.unusedVariables false
namespace Go.Proofs.YtlnaeppbhjmocaaDoor
open Go.RowKit Go.Proofs

def nameL (s : ByteArray) : Int := if 1 ≤ s.size ∧ s.size ≤ 63 ∧ s.data.toList ≠ [46] ∧ s.data.toList ≠ [46, 46] ∧ noneOf s.data.toList = true then 0 else 81
theorem nameL_B (s : ByteArray) : nameL s = if nameB s = true then 0 else 81 := by
  unfold nameL nameB
  simp [and_assoc]
theorem indexAny_noneOf : ∀ l : List UInt8, decide (0 ≤ Lib.indexAny l [47, 0]) = !noneOf l
  | [] => rfl
  | b :: l => by
    have ih := indexAny_noneOf l
    have hge := Lib.indexAny_ge [47, 0] l
    unfold Lib.indexAny noneOf
    rw [List.all_cons]
    by_cases hb : b = 47 ∨ b = 0
    · have h1 : ([47, 0] : List UInt8).contains b = true := by rcases hb with rfl | rfl <;> rfl
      rw [h1, if_pos rfl]
      rcases hb with rfl | rfl <;> simp
    · have h1 : ([47, 0] : List UInt8).contains b = false := by simp; exact not_or.1 hb
      have h2 : (b != 0 && b != 47) = true := by simp; exact ⟨fun e => hb (.inr e), fun e => hb (.inl e)⟩
      rw [h1, if_neg (by simp), h2, Bool.true_and]
      unfold noneOf at ih
      rw [← ih]
      by_cases hm : Lib.indexAny l [47, 0] = -1
      · rw [hm]; rfl
      · rw [if_neg (by simpa using hm), decide_eq_true (by omega), decide_eq_true (by omega)]

theorem zero256 (w : World) : (zeroValue 145).run Tryd.prog w = .ok (.agg (Array.replicate 256 (.bool false))) w := by kernel_rfl
theorem indexAny_any (s : ByteArray) (hs : s.size ≤ 1073741824) (w : World) (hw : Ok w) : Calls Tryd.prog 103 #[.string s, .string ⟨#[47, 0]⟩] w fun e w' => (∃ i : Int, e = .returned (.int .i64 i) ∧ decide (0 ≤ i) = !noneOf s.data.toList) ∧ Fr w w' := by
  by_cases h8 : s.size ≤ 8
  · exact indexAny_short s h8 w hw
  · refine (Tryd.strings_IndexAny_long zero256 s ⟨#[47, 0]⟩ w (by decide) (by omega) (by omega) (by decide) (fun j b hb => ?_)).mono ?_
    · have : b ∈ ([47, 0] : List UInt8) := List.mem_of_getElem? hb
      simp at this
      rcases this with rfl | rfl <;> decide
    · rintro e w' ⟨rfl, rfl⟩
      exact ⟨⟨_, rfl, indexAny_noneOf _⟩, ((Fr.refl hw).alloc _).alloc _⟩

set_option maxRecDepth 100000 in
theorem containsAny_any (s : ByteArray) (hs : s.size ≤ 1073741824) (w : World) (hw : Ok w) : Calls Tryd.prog 96 #[.string s, .string ⟨#[47, 0]⟩] w fun e w' => e = .returned (.bool (!noneOf s.data.toList)) ∧ Fr w w' := by
  have f := Fr.refl hw
  go_enter Tryd.func96, Tryd.ntmps96
  go_wp2_with (go_at_call 103; refine (indexAny_any s hs _ f.ok).mono ?_; rintro e wx ⟨⟨i, rfl, hi⟩, q⟩; replace f := f.trans q; clear q; have HI := Lib.hid hi; clear hi)
  go_ret
  exact ⟨by rw [← HI.out]; rfl, f⟩

set_option maxHeartbeats 1600000 in
set_option maxRecDepth 100000 in
theorem pname_any (s : ByteArray) (hs : s.size ≤ 1073741824) (w : World) (hw : Ok w) : Calls Tryd.prog 84 #[.string s] w fun e w' => e = .returned (.int .i64 (nameL s)) ∧ Fr w w' := by
  have f := Fr.refl hw
  have htl := Lib.toList_data s
  have hno : (¬ (1 ≤ s.size ∧ s.size ≤ 63 ∧ s.data.toList ≠ [46] ∧ s.data.toList ≠ [46, 46] ∧ noneOf s.data.toList = true)) → Hid (nameL s = 81) := fun h => Lib.hid (if_neg h)
  have HNO := Lib.hid hno
  clear hno
  have hemp : s.toList.isEmpty = decide (s.size = 0) := by
    rw [htl, Bool.eq_iff_iff]
    simp only [List.isEmpty_iff, decide_eq_true_eq]
    constructor
    · intro h; have := congrArg List.length h; rw [Array.length_toList] at this; exact this
    · intro h; exact List.eq_nil_of_length_eq_zero (by rw [Array.length_toList]; exact h)
  by_cases h0 : s.size = 0
  · have he : s.toList.isEmpty = true := by rw [hemp]; exact decide_eq_true h0
    have HR := HNO.out (fun h => by omega)
    clear hemp htl h0
    go_enter Tryd.func84, Tryd.ntmps84
    go_wp2_with fail
    go_ret
    exact ⟨by rw [HR.out]; rfl, f⟩
  have he : s.toList.isEmpty = false := by rw [hemp]; exact decide_eq_false h0
  clear hemp
  by_cases h1 : (63 : Int) < (s.size : Int)
  · have HR := HNO.out (fun h => by omega)
    clear htl h0
    go_enter Tryd.func84, Tryd.ntmps84
    go_wp2_with fail
    go_ret
    exact ⟨by rw [HR.out]; rfl, f⟩
  by_cases h2 : s.data.toList = [46]
  · have HR := HNO.out (fun h => h.2.2.1 h2)
    have hb : (s.toList == [46]) = true := by rw [htl, h2]; rfl
    clear htl h0 h2
    go_enter Tryd.func84, Tryd.ntmps84
    go_wp2_with fail
    go_ret
    exact ⟨by rw [HR.out]; rfl, f⟩
  have hb2 : (s.toList == [46]) = false := by rw [htl]; simpa using h2
  by_cases h3 : s.data.toList = [46, 46]
  · have HR := HNO.out (fun h => h.2.2.2.1 h3)
    have hb : (s.toList == [46, 46]) = true := by rw [htl, h3]; rfl
    clear htl h0 h2 h3
    go_enter Tryd.func84, Tryd.ntmps84
    go_wp2_with fail
    go_ret
    exact ⟨by rw [HR.out]; rfl, f⟩
  have hb3 : (s.toList == [46, 46]) = false := by rw [htl]; simpa using h3
  cases hn : noneOf s.data.toList with
  | false =>
    have HR := HNO.out (fun h => by rw [hn] at h; exact absurd h.2.2.2.2 (by simp))
    have HN := Lib.hid hn
    clear htl h0 h2 h3 hn
    go_enter Tryd.func84, Tryd.ntmps84
    go_wp2_with (go_at_call 96; refine (containsAny_any s hs _ f.ok).mono ?_; rw [HN.out]; rintro e wx ⟨rfl, q⟩; replace f := f.trans q; clear q)
    go_ret
    exact ⟨by rw [HR.out]; rfl, f⟩
  | true =>
    have HR : Hid (nameL s = 0) := Lib.hid (if_pos ⟨by omega, by omega, h2, h3, hn⟩)
    have HN := Lib.hid hn
    clear htl h0 h2 h3 hn
    go_enter Tryd.func84, Tryd.ntmps84
    go_wp2_with (go_at_call 96; refine (containsAny_any s hs _ f.ok).mono ?_; rw [HN.out]; rintro e wx ⟨rfl, q⟩; replace f := f.trans q; clear q)
    go_ret
    exact ⟨by rw [HR.out]; rfl, f⟩

end Go.Proofs.YtlnaeppbhjmocaaDoor
set_option linter.unusedSimpArgs false
set_option linter.unusedVariables false
namespace Go.Proofs.YtlnaeppbhjmocaaDoor
open Go.RowKit Go.Proofs Go.Proofs.YtlnaeppbhjmocaaDoorW.PrintWords Go.Proofs.YtlnaeppbhjmocaaDoorW.PrintMore

theorem ib_zero : ∀ l : List UInt8, decide (Lib.indexByte l 0 < 0) = l.all fun c => c != 0
  | [] => rfl
  | b :: l => by
    have ih := ib_zero l
    unfold Lib.indexByte
    by_cases hb : b = 0
    · subst hb; simp
    · rw [List.all_cons, ← ih]
      have h1 : (b == 0) = false := by simpa using hb
      have h2 : (b != 0) = true := by simpa using hb
      have hge := Lib.indexByte_ge l 0
      rw [h2, h1, Bool.true_and, if_neg (by simp)]
      by_cases hm : Lib.indexByte l 0 = -1
      · rw [if_pos (by simpa using hm), hm]
      · rw [if_neg (by simpa using hm), decide_eq_false (by omega), decide_eq_false (by omega)]
theorem goodTarget_any (s : ByteArray) (w : World) : Calls Tryd.prog 64 #[.string s] w fun e w' => e = .returned (.bool (targetB s)) ∧ w' = w := by
  by_cases h1 : 1 ≤ s.size
  · by_cases h2 : s.size ≤ 127
    · have d1 : (1 : Int) ≤ s.size := by omega
      have d2 : (s.size : Int) ≤ 127 := by omega
      have hi := ib_zero s.data.toList
      have ht : targetB s = decide (Lib.indexByte s.data.toList 0 < 0) := by
        unfold targetB; rw [decide_eq_true ⟨h1, h2⟩, hi]; rfl
      have HT := Lib.hid ht
      clear hi ht
      go_enter Tryd.func64, Tryd.ntmps64
      go_wp2_with (go_at_call 77; refine (Tryd.strings_IndexByte s 0 _).mono ?_; rintro e wx ⟨rfl, rfl⟩)
      go_ret
      exact ⟨by rw [HT.out]; rfl, rfl⟩
    · have d1 : (1 : Int) ≤ s.size := by omega
      have d2 : (127 : Int) < s.size := by omega
      have ht : targetB s = false := by unfold targetB; rw [decide_eq_false (fun h => h2 h.2)]; rfl
      have HT := Lib.hid ht
      clear ht
      go_enter Tryd.func64, Tryd.ntmps64
      go_wp2_with fail
      go_ret
      exact ⟨by rw [HT.out]; rfl, rfl⟩
  · have d1 : (s.size : Int) < 1 := by omega
    have ht : targetB s = false := by unfold targetB; rw [decide_eq_false (fun h => h1 h.1)]; rfl
    have HT := Lib.hid ht
    clear ht
    go_enter Tryd.func64, Tryd.ntmps64
    go_wp2_with fail
    go_ret
    exact ⟨by rw [HT.out]; rfl, rfl⟩

/-- how many bytes the path of some names has -/
def plen (l : List ByteArray) : Nat := (l.flatMap fun n => slash :: n.data.toList).length
theorem plen_snoc (l : List ByteArray) (n : ByteArray) : plen (l ++ [n]) = plen l + (1 + n.size) := by
  unfold plen
  rw [List.flatMap_append, List.length_append]
  simp [Nat.add_comm]
theorem plen_path {l : List ByteArray} (h : l ≠ []) : (pathOf l).size = plen l := by
  unfold pathOf plen
  rw [if_neg h]
  exact List.size_toArray ..
theorem plen_le (l : List ByteArray) (h : ∀ n ∈ l, n.size ≤ 63) : plen l ≤ 64 * l.length := by
  induction l with
  | nil => simp [plen]
  | cons n r ih =>
    have h1 := ih (fun m hm => h m (List.mem_cons_of_mem _ hm))
    have h2 := h n List.mem_cons_self
    have : plen (n :: r) = (1 + n.size) + plen r := by unfold plen; simp; omega
    rw [this, List.length_cons]; omega
theorem join_path : ∀ (l : List ByteArray), l ≠ [] → (47 : UInt8) :: Lib.join (l.map (·.data.toList)) [47] = l.flatMap fun n => slash :: n.data.toList
  | [n], _ => by simp [Lib.join, List.intercalate, slash]
  | n :: m :: r, _ => by
    have ih := join_path (m :: r) (by simp)
    rw [List.flatMap_cons, ← ih]
    simp [Lib.join, List.intercalate, slash]
theorem join_path' {l : List ByteArray} (h : l ≠ []) : (⟨#[47]⟩ : ByteArray) ++ ⟨(Lib.join (l.map (·.data.toList)) [47]).toArray⟩ = pathOf l := by
  refine bs_ext ?_
  unfold pathOf
  rw [if_neg h, ← join_path l h, ByteArray.data_append]
  simp
theorem join_len {l : List ByteArray} (h : l ≠ []) : (Lib.join (l.map (·.data.toList)) [47]).length + 1 = plen l := by
  have := congrArg List.length (join_path l h)
  simpa [plen] using this
def goodNames (ns : List ByteArray) : Bool := ns.all nameB && decide ((pathOf ns).size ≤ 1023)
theorem goodNames_iff {ns : List ByteArray} : goodNames ns = true ↔ (∀ n ∈ ns, nameB n = true) ∧ (pathOf ns).size ≤ 1023 := by
  simp [goodNames]
def JoinOut (ns : List ByteArray) (e : Ending) : Prop := ∃ s x, e = .returned (.tuple #[.string s, .int .i64 x]) ∧ (x = 0 ↔ goodNames ns = true) ∧ (goodNames ns = true → s = pathOf ns)
theorem joinOut_bad {ns : List ByteArray} (h : goodNames ns = false) (x : Int) (hx : x ≠ 0) (s : ByteArray) : JoinOut ns (.returned (.tuple #[.string s, .int .i64 x])) := ⟨s, x, rfl, by rw [h]; simp [hx], by rw [h]; simp⟩
set_option maxHeartbeats 3200000 in
set_option maxRecDepth 100000 in
theorem join_any (g c : Nat) (ns : List ByteArray) (w : World) (hw : Ok w) (hg : g < w.heap.size) (hcells : ∀ j (h : j < ns.length), w.cell? ⟨g, j, none⟩ = some (.string ns[j])) (hc : ns.length ≤ c) (h0 : ns ≠ []) (hl : ns.length ≤ 64) (hup : ∀ n ∈ ns, n.data.toList ≠ [46, 46]) (hsz : ∀ n ∈ ns, n.size ≤ 63) :
    Calls Tryd.prog 70 #[.slice (some ⟨g, 0, none⟩) ns.length c] w fun e w' => JoinOut ns e ∧ Fr w w' := by
  have f := Fr.refl hw
  have HC := Lib.hid hcells
  have HU := Lib.hid hup
  have HS := Lib.hid hsz
  clear hcells hup hsz
  go_enter Tryd.func70, Tryd.ntmps70
  go_wp2_with fail
  go_loopg [4, 9] ns.length (fun k v4 v9 wc => ∃ i : Nat, i + k = ns.length ∧ v4 = .int .i64 (plen (ns.take i)) ∧ v9 = .int .i64 i ∧ Hid (∀ n ∈ ns.take i, nameB n = true) ∧ Hid (Fr w wc))
  case atStart => exact ⟨0, by omega, by simp [plen], rfl, Lib.hid (by simp), Lib.hid f⟩
  case round =>
    clear f
    obtain ⟨i, hik, rfl, rfl, HA, f⟩ := hrel
    have hpl : plen (ns.take i) ≤ 4096 := by
      have := plen_le (ns.take i) (fun n hn => HS.out n (List.mem_of_mem_take hn))
      rw [List.length_take] at this; omega
    cases gk with
    | succ k =>
      have hlt : i < ns.length := by omega
      have hcell := f.out.cell (HC.out i hlt)
      obtain ⟨nm, hnm⟩ : ∃ n, ns[i] = n := ⟨_, rfl⟩
      rw [hnm] at hcell
      have hmem : nm ∈ ns := by rw [← hnm]; exact List.getElem_mem hlt
      have hns := HS.out nm hmem
      have hup : (nm.toList == [46, 46]) = false := by rw [toL]; simpa using HU.out nm hmem
      have hup2 : (nm.toList != [46, 46]) = true := by rw [toL]; simpa using HU.out nm hmem
      have htk : ns.take (i + 1) = ns.take i ++ [nm] := by rw [← hnm]; exact (List.take_append_getElem hlt).symm
      have HTK := Lib.hid htk
      have d2 : (0 : Int) ≤ (i : Int) := by omega
      have d3 : (i : Int) < (ns.length : Int) := by omega
      have d1 : decide ((i : Int) < (ns.length : Int)) = true := decide_eq_true d3
      have HM := Lib.hid hmem
      have hnv : nameL nm = if nameB nm = true then 0 else 81 := nameL_B nm
      clear htk hnm hmem
      cases hB : nameB nm with
      | false =>
        have HN := Lib.hid (pname_any nm (by omega) wr f.out.ok)
        have hnv2 : nameL nm = 81 := by rw [hnv, hB]; rfl
        have HB := Lib.hid hB
        rw [hnv2] at HN
        clear hnv hnv2 hB
        go_wp2_with (go_at_call 84; (with_reducible refine HN.out.mono ?_); rintro e wx ⟨rfl, q⟩; (have HQ := Lib.hid q); clear q)
        go_ret2
        exact ⟨joinOut_bad (by
          rw [Bool.eq_false_iff]; intro h
          have := (goodNames_iff.1 h).1 nm HM.out
          rw [HB.out] at this; cases this) 81 (by decide) _, f.out.trans HQ.out⟩
      | true =>
        have HN := Lib.hid (pname_any nm (by omega) wr f.out.ok)
        have hnv2 : nameL nm = 0 := by rw [hnv, hB]; rfl
        have HB := Lib.hid hB
        rw [hnv2] at HN
        have hsn := plen_snoc (ns.take i) nm
        have HSN := Lib.hid hsn
        clear hnv hnv2 hB hsn
        go_wp2_with (go_at_call 84; (with_reducible refine HN.out.mono ?_); rintro e wx ⟨rfl, q⟩; (have HQ := Lib.hid q); clear q)
        go_roundg k
        case measure => omega
        case rel =>
          refine ⟨i + 1, by omega, ?_, by go_num, Lib.hid ?_, Lib.hid (f.out.trans HQ.out)⟩
          · rw [HTK.out, HSN.out]; simp
          · rw [HTK.out]
            intro n hn
            rcases List.mem_append.1 hn with h | h
            · exact HA.out n h
            · rw [List.mem_singleton.1 h]; exact HB.out
    | zero =>
      obtain rfl : i = ns.length := by omega
      have d1 : (ns.length : Int) ≤ (ns.length : Int) := by omega
      have d4 : decide ((64 : Int) < (ns.length : Int)) = false := decide_eq_false (by omega)
      have htl := List.take_length (l := ns)
      have HAll : Hid (∀ n ∈ ns, nameB n = true) := Lib.hid (by have := HA.out; rwa [htl] at this)
      rw [htl]
      rw [htl] at hpl
      have hps := plen_path h0
      by_cases h1023 : 1023 < plen ns
      · have d5 : (1023 : Int) < (plen ns : Int) := by omega
        have HBad : Hid (goodNames ns = false) := Lib.hid (by
          rw [Bool.eq_false_iff]; intro h
          have := (goodNames_iff.1 h).2; omega)
        clear htl hps
        go_wp2
        go_ret2
        exact ⟨joinOut_bad HBad.out 161 (by decide) _, f.out⟩
      · have d5 : (plen ns : Int) ≤ 1023 := by omega
        have HGood : Hid (goodNames ns = true) := Lib.hid (goodNames_iff.2 ⟨HAll.out, by omega⟩)
        have hjl := join_len h0
        have hjn := Tryd.strings_Join g 0 c ns ⟨#[47]⟩ wr (fun j x hx => by
            have hj := (List.getElem?_eq_some_iff.1 hx).1
            have hx' := (List.getElem?_eq_some_iff.1 hx).2
            rw [Nat.zero_add, ← hx']; exact f.out.cell (HC.out j hj)) (Nat.lt_of_lt_of_le hg f.out.size) (by omega) hc (by show (Lib.join _ [47]).length ≤ _; omega)
        have HJ := Lib.hid hjn
        have hjp := join_path' h0
        obtain ⟨J, hJ⟩ : ∃ J, Lib.join (ns.map (·.data.toList)) [47] = J := ⟨_, rfl⟩
        have hJ' : Hid (Calls Tryd.prog 74 #[.slice (some ⟨g, 0, none⟩) ns.length c, .string ⟨#[47]⟩] wr fun e w' => e = .returned (.string ⟨J.toArray⟩) ∧ Below wr.heap.size wr w') := Lib.hid (by rw [← hJ]; exact hjn)
        rw [hJ] at hjp hjl
        have HJP := Lib.hid hjp
        have hsJ : (⟨J.toArray⟩ : ByteArray).size = J.length := bs_size J
        obtain ⟨SJ, hSJ⟩ : ∃ S : ByteArray, (⟨J.toArray⟩ : ByteArray) = S := ⟨_, rfl⟩
        rw [hSJ] at hsJ
        have HSJ := Lib.hid hSJ
        have hs3 : SJ.size ≤ 1023 := by omega
        clear htl hps hjn HJ hJ hjp hSJ hsJ hjl
        go_wp2_with (go_at_call 74; refine hJ'.out.mono ?_; rw [HSJ.out]; rintro e wx ⟨rfl, hb⟩; (have HQ := Lib.hid (Fr.of f.out.ok hb)); clear hb)
        go_ret2
        exact ⟨⟨_, 0, rfl, by rw [HGood.out]; simp, fun _ => by rw [← HJP.out, HSJ.out]⟩, f.out.trans HQ.out⟩
end Go.Proofs.YtlnaeppbhjmocaaDoor
set_option linter.unusedSimpArgs false
set_option linter.unusedVariables false
namespace Go.Proofs.YtlnaeppbhjmocaaDoor
open Go.RowKit Go.Proofs Go.Proofs.YtlnaeppbhjmocaaDoorW.PrintWords Go.Proofs.YtlnaeppbhjmocaaDoorW.PrintMore

/-! ### An error stays -/
theorem numX_err {L : List Int} {n : Nat} {lo hi : Int} {o : Er} {e : Int} (h : o = .error e) : (numX L n lo hi o).2 = .error e := by subst h; rfl
theorem takeX_err {L : List Int} {n : Nat} {o : Er} {e : Int} (h : o = .error e) : (takeX L n o).2 = .error e := by subst h; rfl
theorem leafX_s (gt : ByteArray → ByteArray → Bool) (L : List Int) (dry : Bool) (ns : List ByteArray) (dir : Bool) (o : Er) : leafX gt L dry ns dir o =
    leafE gt L dry ns (numX L 1 0 (mostX ns dir) o).1.toNat (numX L 1 1 3 (numX L 1 0 (mostX ns dir) o).2).1 (numX L 2 0 4095 (numX L 1 1 3 (numX L 1 0 (mostX ns dir) o).2).2).1
      (numX L 8 0 18446744073709551615 (numX L 2 0 4095 (numX L 1 1 3 (numX L 1 0 (mostX ns dir) o).2).2).2).1
      (takeX L (numX L 1 1 63 (numX L 8 0 18446744073709551615 (numX L 2 0 4095 (numX L 1 1 3 (numX L 1 0 (mostX ns dir) o).2).2).2).2).1.toNat (numX L 1 1 63 (numX L 8 0 18446744073709551615 (numX L 2 0 4095 (numX L 1 1 3 (numX L 1 0 (mostX ns dir) o).2).2).2).2).2).1
      (takeX L (numX L 1 1 63 (numX L 8 0 18446744073709551615 (numX L 2 0 4095 (numX L 1 1 3 (numX L 1 0 (mostX ns dir) o).2).2).2).2).1.toNat (numX L 1 1 63 (numX L 8 0 18446744073709551615 (numX L 2 0 4095 (numX L 1 1 3 (numX L 1 0 (mostX ns dir) o).2).2).2).2).2).2 := by
  unfold leafX leafE
  dsimp only
  all_goals
    generalize (takeX L (numX L 1 1 63 (numX L 8 0 18446744073709551615 (numX L 2 0 4095 (numX L 1 1 3 (numX L 1 0 (mostX ns dir) o).2).2).2).2).1.toNat (numX L 1 1 63 (numX L 8 0 18446744073709551615 (numX L 2 0 4095 (numX L 1 1 3 (numX L 1 0 (mostX ns dir) o).2).2).2).2).2) = q
    obtain ⟨q1, q2⟩ := q
    cases q2 <;> rfl
theorem leafE_err {gt : ByteArray → ByteArray → Bool} {L : List Int} {dry : Bool} {ahead : List ByteArray} {k : Nat} {ty mo st : Int} {nb : List Int} {o : Er} {e : Int} (h : o = .error e) : (leafE gt L dry ahead k ty mo st nb o).2 = .error e := by subst h; rfl
section
variable {gt : ByteArray → ByteArray → Bool} {L : List Int} {dry : Bool} {ns : List ByteArray} {dir : Bool} {o o1 o2 o3 o4 o5 : Er} {e k t m s l : Int}
theorem leafX_e1 (h : (numX L 1 0 (mostX ns dir) o).2 = .error e) : (leafX gt L dry ns dir o).2 = .error e := by
  rw [leafX_s]; exact leafE_err (takeX_err (numX_err (numX_err (numX_err (numX_err h)))))
theorem leafX_e2 (h1 : numX L 1 0 (mostX ns dir) o = (k, o1)) (h : (numX L 1 1 3 o1).2 = .error e) : (leafX gt L dry ns dir o).2 = .error e := by
  rw [leafX_s, h1]; exact leafE_err (takeX_err (numX_err (numX_err (numX_err h))))
theorem leafX_e3 (h1 : numX L 1 0 (mostX ns dir) o = (k, o1)) (h2 : numX L 1 1 3 o1 = (t, o2)) (h : (numX L 2 0 4095 o2).2 = .error e) : (leafX gt L dry ns dir o).2 = .error e := by
  rw [leafX_s, h1]; dsimp only; rw [h2]; exact leafE_err (takeX_err (numX_err (numX_err h)))
theorem leafX_e4 (h1 : numX L 1 0 (mostX ns dir) o = (k, o1)) (h2 : numX L 1 1 3 o1 = (t, o2)) (h3 : numX L 2 0 4095 o2 = (m, o3)) (h : (numX L 8 0 18446744073709551615 o3).2 = .error e) : (leafX gt L dry ns dir o).2 = .error e := by
  rw [leafX_s, h1]; dsimp only; rw [h2]; dsimp only; rw [h3]; exact leafE_err (takeX_err (numX_err h))
theorem leafX_e5 (h1 : numX L 1 0 (mostX ns dir) o = (k, o1)) (h2 : numX L 1 1 3 o1 = (t, o2)) (h3 : numX L 2 0 4095 o2 = (m, o3)) (h4 : numX L 8 0 18446744073709551615 o3 = (s, o4)) (h : (numX L 1 1 63 o4).2 = .error e) : (leafX gt L dry ns dir o).2 = .error e := by
  rw [leafX_s, h1]; dsimp only; rw [h2]; dsimp only; rw [h3]; dsimp only; rw [h4]; exact leafE_err (takeX_err h)
theorem leafX_6 (h1 : numX L 1 0 (mostX ns dir) o = (k, o1)) (h2 : numX L 1 1 3 o1 = (t, o2)) (h3 : numX L 2 0 4095 o2 = (m, o3)) (h4 : numX L 8 0 18446744073709551615 o3 = (s, o4)) (h5 : numX L 1 1 63 o4 = (l, o5)) :
    leafX gt L dry ns dir o = leafE gt L dry ns k.toNat t m s (takeX L l.toNat o5).1 (takeX L l.toNat o5).2 := by
  rw [leafX_s, h1]; dsimp only; rw [h2]; dsimp only; rw [h3]; dsimp only; rw [h4]; dsimp only; rw [h5]
end

theorem goodNames_bad {gt : ByteArray → ByteArray → Bool} {ns : List ByteArray} {nm PN : ByteArray} {k : Nat} (hns : ∀ n ∈ ns, nameB n = true) (hgt : k < ns.length → gt nm (ns.getD k ⟨#[]⟩) = true) (hP : pathOf (ns.take k ++ [nm]) = PN) :
    goodNames (ns.take k ++ [nm]) = !badB gt nm ns k PN := by
  have hall : (ns.take k ++ [nm]).all nameB = nameB nm := by
    rw [List.all_append]
    have : (ns.take k).all nameB = true := List.all_eq_true.2 (fun n hn => hns n (List.mem_of_mem_take hn))
    rw [this]; simp
  have hg : (decide (k < ns.length) && !gt nm (ns.getD k ⟨#[]⟩)) = false := by
    by_cases h : k < ns.length
    · rw [hgt h]; simp
    · simp [h]
  unfold goodNames badB
  rw [hall, hP, hg, Bool.or_false, Bool.not_or, Bool.not_not]
  congr 1
  by_cases h : 1023 < PN.size
  · rw [decide_eq_true h, decide_eq_false (by omega)]; rfl
  · rw [decide_eq_false h, decide_eq_true (by omega)]; rfl
/-- names, a row of the call's own -/
def NO (w : World) (B : Nat) (v : Value) (ns : List ByteArray) : Prop := w.ownsRow B 9 1 v ns.length (ns.map Value.string)
theorem NO.fr {w w' : World} {B : Nat} {v : Value} {ns : List ByteArray} (h : NO w B v ns) (q : Fr w w') : NO w' B v ns := own_fr h q
theorem NO.keep {w w' : World} {B g : Nat} {v : Value} {ns : List ByteArray} (h : NO w B v ns) (q : w.grownBy w' (some g)) (hg : g < B) : NO w' B v ns := own_keep h q (fun k hk => by have := (World.ownsRow.lt h k hk).1; omega)
theorem NO.blk {w w' : World} {B g : Nat} {v : Value} {ns : List ByteArray} (h : NO w B v ns) (q : w.grownBy w' (some g)) {cs : Array Value} {t : TypeId} (H : w.heap[g]? = some (.cells cs t (0, 0))) (ht : 9 ≠ t) : NO w' B v ns := own_grown h q H ht
theorem NO.own {w w' : World} {B b s n : Nat} {v v2 : Value} {e : TypeId} {ns : List ByteArray} {xs : List Value} (h : NO w B v ns) (q : w.grownBy w' v2.ownBlock) (O : w.ownsRow b e s v2 n xs) (ht : 9 ≠ e) : NO w' B v ns := World.ownsRow.kept h q (own_ne2 h O ht)
theorem NO.low {w : World} {B B' : Nat} {v : Value} {ns : List ByteArray} (h : NO w B v ns) (hb : B' ≤ B) : NO w B' v ns := own_low h hb
theorem NO.nil (w : World) (B : Nat) : NO w B (.slice none 0 0) [] := ⟨by simp, .inl ⟨rfl, rfl⟩⟩
theorem NO.src {w : World} {B c : Nat} {A : Option Addr} {ns : List ByteArray} (h : NO w B (.slice A ns.length c) ns) (k : Nat) (hk : k ≤ ns.length) : Src w A k (if A = none then 0 else c) ((ns.take k).map Value.string) := by
  rcases h.2 with ⟨hv, h0⟩ | ⟨g, cap, cur, hv, _⟩
  · injection hv with e1 e2 e3
    subst e1
    have : ns = [] := List.eq_nil_of_length_eq_zero h0
    subst this
    exact .inl ⟨rfl, by simp at hk; omega, by simp, by simp⟩
  · injection hv with e1 e2 e3
    subst e1 e3
    refine .inr ⟨_, rfl, fun j u hj => ?_⟩
    refine World.ownsRow.cells h (g := g) rfl j u ?_
    rw [List.getElem?_map] at hj ⊢
    have hjl : j < (ns.take k).length := by
      by_cases hh : j < (ns.take k).length
      · exact hh
      · rw [List.getElem?_eq_none (by omega)] at hj; cases hj
    rw [List.getElem?_take_of_lt (by rw [List.length_take] at hjl; omega)] at hj
    exact hj
theorem NO.at {w : World} {B g c n : Nat} {ns : List ByteArray} (h : NO w B (.slice (some ⟨g, 0, none⟩) n c) ns) (i : Nat) (hi : i < ns.length) : w.cell? ⟨g, i, none⟩ = some (.string ns[i]) := by
  have hn : n = ns.length := by
    obtain ⟨a, c', he⟩ := own_form h
    injection he
  subst hn
  have := World.ownsRow.cells h (g := g) rfl i (.string ns[i]) (by simp [hi])
  rwa [Lib.add_plain, Nat.zero_add] at this
theorem NO.form {w : World} {B : Nat} {v : Value} {ns : List ByteArray} (h : NO w B v ns) : (v = .slice none 0 0 ∧ ns = []) ∨ ∃ g c, v = .slice (some ⟨g, 0, none⟩) ns.length c ∧ ns.length ≤ c ∧ B ≤ g ∧ g < w.heap.size := by
  rcases h.2 with ⟨hv, h0⟩ | ⟨g, cap, cur, hv, hb, hg, hn, _⟩
  · exact .inl ⟨hv, List.eq_nil_of_length_eq_zero h0⟩
  · exact .inr ⟨g, cap, hv, hn, hb, (Array.getElem?_eq_some_iff.1 hg).1⟩
theorem info_string : ∃ i, Tryd.prog.info? 9 = some i ∧ i.zero = some (.string ⟨#[]⟩) ∧ i.size = 1 ∧ i.bytes = 16 := by
  have : (Tryd.prog.info? 9).map (fun i => (i.zero, i.size, i.bytes)) = some (some (.string ⟨#[]⟩), 1, 16) := by kernel_rfl
  obtain ⟨i, hi, he⟩ := Option.map_eq_some_iff.1 this
  injection he with e1 e2
  injection e2 with e2 e3
  exact ⟨i, hi, e1, e2, e3⟩
end Go.Proofs.YtlnaeppbhjmocaaDoor
