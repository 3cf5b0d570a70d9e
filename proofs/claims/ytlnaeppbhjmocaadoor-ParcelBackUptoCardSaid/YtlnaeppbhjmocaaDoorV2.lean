/- The program's reader of a parcel (parcel.reader): must, take, number by their contracts: takeX and numX, or it gives up with their error. -/
import Derived.Test.YtlnaeppbhjmocaaDoorV1
import Derived.Deep.DeepCutAuto
import Derived.Laws.BitsLemmas
import Derived.Deep.CutBlock
import Derived.Test.YtlnaeppbhjmocaaDoorCards
import Derived.Test.YtlnaeppbhjmocaaDoorTie
import Derived.ProofKit
import Derived.WideShapes
import Derived.Deep.DeepHandedRow
import Derived.Lib.LaidU8
import Derived.Lib.LaidTab
import Derived.OpenShut
import Derived.Deep.Slices
import Derived.Test.YtlnaeppbhjmocaaDoorPnextHolex1
import Derived.Laws.Bits64b
set_option linter.unusedSectionVars false
set_option linter.unnecessarySimpa false
set_option linter.unusedSimpArgs false
set_option linter.unusedVariables false
set_option linter.unusedSimpArgs false
set_option linter.unusedVariables false
namespace Go.Proofs.YtlnaeppbhjmocaaDoor
open Go.RowKit Go.Proofs Go.Proofs.YtlnaeppbhjmocaaDoorW.PrintWords Go.Proofs.YtlnaeppbhjmocaaDoorW.PrintMore

def badB (gt : ByteArray → ByteArray → Bool) (nm : ByteArray) (ns : List ByteArray) (k : Nat) (P : ByteArray) : Bool := !nameB nm || (decide (k < ns.length) && !gt nm (ns.getD k ⟨#[]⟩)) || decide (1023 < P.size)
theorem badB_iff {gt : ByteArray → ByteArray → Bool} {nm : ByteArray} {ns : List ByteArray} {k : Nat} {P : ByteArray} : badB gt nm ns k P = true ↔ (nameB nm = false ∨ (k < ns.length ∧ gt nm (ns.getD k ⟨#[]⟩) = false) ∨ 1023 < P.size) := by
  simp [badB, or_assoc]
section
variable {gt : ByteArray → ByteArray → Bool} {nm PN : ByteArray} {ns : List ByteArray} {k j : Nat} {L nb : List Int} {dry : Bool} {ty mo st : Int}
theorem leafE_bad (h : badB gt nm ns k PN = true) (hn : strOfNums nb = nm) (hp : pathOf (ns.take k ++ [nm]) = PN) : leafE gt L dry ns k ty mo st nb (.ok j) = ((⟨PN, ty, mo, st, [], ⟨#[]⟩⟩, ns.take k ++ [nm]), .error 191) := by
  subst hn; subst hp; simp only [leafE]; rw [if_pos (badB_iff.1 h)]
theorem not_bad (h : badB gt nm ns k PN = false) : ¬ (nameB nm = false ∨ (k < ns.length ∧ gt nm (ns.getD k ⟨#[]⟩) = false) ∨ 1023 < PN.size) := fun hh => by rw [badB_iff.2 hh] at h; cases h
theorem leafE_file (h : badB gt nm ns k PN = false) (hn : strOfNums nb = nm) (hp : pathOf (ns.take k ++ [nm]) = PN) : leafE gt L dry ns k 1 mo st nb (.ok j) = ((⟨PN, 1, mo, st, (dataR L dry (numX L 4 0 16777216 (.ok j)).1 (numX L 4 0 16777216 (.ok j)).2).1, ⟨#[]⟩⟩, ns.take k ++ [nm]), (dataR L dry (numX L 4 0 16777216 (.ok j)).1 (numX L 4 0 16777216 (.ok j)).2).2) := by
  subst hn; subst hp; simp only [leafE]; rw [if_neg (not_bad h), if_pos trivial]
theorem leafE_link (h : badB gt nm ns k PN = false) (hn : strOfNums nb = nm) (hp : pathOf (ns.take k ++ [nm]) = PN) : leafE gt L dry ns k 3 mo st nb (.ok j) = ((⟨PN, 3, mo, st, [], strOfNums (takeX L (numX L 1 1 127 (.ok j)).1.toNat (numX L 1 1 127 (.ok j)).2).1⟩, ns.take k ++ [nm]), orFail (takeX L (numX L 1 1 127 (.ok j)).1.toNat (numX L 1 1 127 (.ok j)).2).2 (!targetB (strOfNums (takeX L (numX L 1 1 127 (.ok j)).1.toNat (numX L 1 1 127 (.ok j)).2).1))) := by
  subst hn; subst hp; simp only [leafE]; rw [if_neg (not_bad h), if_neg (by decide), if_pos trivial]
theorem leafE_dir (h : badB gt nm ns k PN = false) (hn : strOfNums nb = nm) (hp : pathOf (ns.take k ++ [nm]) = PN) (h1 : ¬ ty = 1) (h3 : ¬ ty = 3) : leafE gt L dry ns k ty mo st nb (.ok j) = ((⟨PN, ty, mo, st, [], ⟨#[]⟩⟩, ns.take k ++ [nm]), .ok j) := by
  subst hn; subst hp; simp only [leafE]; rw [if_neg (not_bad h), if_neg h1, if_neg h3]
end
theorem OwnB.keep {w w' : World} {B : Nat} {v : Value} {xs : List Int} (h : OwnB w B v xs) {g : Nat} (q : w.grownBy w' (some g)) (hg : g < B) : OwnB w' B v xs :=
  own_keep h q (fun k hk => by have := (h.lt hk).1; omega)
def gtB (a b : ByteArray) : Bool := !(Op.bytesLess a.toList b.toList || a.toList == b.toList)

end Go.Proofs.YtlnaeppbhjmocaaDoor
set_option linter.unusedSimpArgs false
set_option linter.unusedVariables false
namespace Go.Proofs.YtlnaeppbhjmocaaDoor
open Go.RowKit Go.Proofs Go.Proofs.YtlnaeppbhjmocaaDoorW.PrintWords Go.Proofs.YtlnaeppbhjmocaaDoorW.PrintMore

theorem takeX_on {L : List Int} {n j : Nat} {o : Er} (h : (takeX L n o).2 = .ok j) : ∃ i, o = .ok i ∧ j = i + n ∧ j ≤ L.length := by
  cases o with
  | error e => simp [takeX] at h
  | ok i =>
    simp only [takeX] at h
    split at h
    · injection h with h; exact ⟨i, rfl, by omega, by omega⟩
    · cases h
theorem numX_on {L : List Int} {n j : Nat} {lo hi : Int} {o : Er} (h : (numX L n lo hi o).2 = .ok j) : ∃ i, o = .ok i ∧ j = i + n ∧ j ≤ L.length := by
  cases ht : takeX L n o with
  | mk bs o1 =>
    cases o1 with
    | error e => unfold numX at h; rw [ht] at h; cases h
    | ok j' =>
      have : j' = j := by
        unfold numX at h
        rw [ht] at h
        dsimp only at h
        split at h <;> injection h
      subst this
      exact takeX_on (n := n) (by rw [ht])
theorem orFail_on {o : Er} {b : Bool} {j : Nat} (h : orFail o b = .ok j) : o = .ok j := (orFail_ok h).1
theorem dataX_on {L : List Int} {dry : Bool} {n : Int} : ∀ (f : Nat) {told : Int} {out : List Int} {last : Int} {o : Er} {j : Nat}, (dataX L dry n f told out last o).2 = .ok j → ∃ i, o = .ok i ∧ i ≤ j ∧ (i ≤ L.length → j ≤ L.length)
  | 0, told, out, last, o, j, h => ⟨j, h, Nat.le_refl _, id⟩
  | f + 1, told, out, last, .error e, j, h => by simp [dataX] at h
  | f + 1, told, out, last, .ok i, j, h => by
    refine ⟨i, rfl, ?_⟩
    simp only [dataX] at h
    split at h
    · rename_i hlt
      obtain ⟨a, ha⟩ : ∃ a, numX L 1 0 1 (.ok i) = a := ⟨_, rfl⟩
      rw [ha] at h
      obtain ⟨k, hk⟩ : ∃ k, numX L 4 (if a.1 = 0 then 16 else 1) (n - told) (orFail a.2 (decide (a.1 = last))) = k := ⟨_, rfl⟩
      rw [hk] at h
      cases hk2 : k.2 with
      | error e => rw [hk2] at h; cases h
      | ok j1 =>
        rw [hk2] at h
        dsimp only at h
        obtain ⟨i2, e2, e3, e4⟩ := numX_on (n := 4) (j := j1) (by rw [hk]; exact hk2)
        have e5 := orFail_on e2
        obtain ⟨i3, e6, e7, e8⟩ := numX_on (n := 1) (j := i2) (by rw [ha]; exact e5)
        injection e6 with e6
        subst e6
        split at h
        · obtain ⟨i4, f1, f2, f3⟩ := dataX_on f h
          have f4 := orFail_on f1
          obtain ⟨i5, f5, f6, f7⟩ := takeX_on f4
          injection f5 with f5
          exact ⟨by omega, fun _ => f3 f7⟩
        · obtain ⟨i4, f1, f2, f3⟩ := dataX_on f h
          injection f1 with f1
          exact ⟨by omega, fun _ => f3 (by omega)⟩
    · injection h with h
      subst h
      exact ⟨Nat.le_refl _, id⟩
/-- a leaf read takes some bytes -/
theorem leafX_on {gt : ByteArray → ByteArray → Bool} {L : List Int} {dry : Bool} {ahead : List ByteArray} {dir : Bool} {o : Er} {j : Nat} (h : (leafX gt L dry ahead dir o).2 = .ok j) : ∃ i, o = .ok i ∧ i < j ∧ j ≤ L.length := by
  unfold leafX at h
  obtain ⟨k, hk⟩ : ∃ k, numX L 1 0 (mostX ahead dir) o = k := ⟨_, rfl⟩
  obtain ⟨ty, hty⟩ : ∃ q, numX L 1 1 3 k.2 = q := ⟨_, rfl⟩
  obtain ⟨mo, hmo⟩ : ∃ k, numX L 2 0 4095 ty.2 = k := ⟨_, rfl⟩
  obtain ⟨st, hst⟩ : ∃ k, numX L 8 0 18446744073709551615 mo.2 = k := ⟨_, rfl⟩
  obtain ⟨nl, hnl⟩ : ∃ k, numX L 1 1 63 st.2 = k := ⟨_, rfl⟩
  obtain ⟨nm, hnm⟩ : ∃ k, takeX L nl.1.toNat nl.2 = k := ⟨_, rfl⟩
  rw [hk] at h
  dsimp only at h
  rw [hty] at h
  rw [hmo] at h
  rw [hst] at h
  rw [hnl] at h
  rw [hnm] at h
  have key : ∀ j', nm.2 = .ok j' → ∃ i, o = .ok i ∧ i < j' ∧ j' ≤ L.length := fun j' h' => by
    obtain ⟨i1, e1, a1, b1⟩ := takeX_on (j := j') (by rw [hnm]; exact h')
    obtain ⟨i2, e2, a2, b2⟩ := numX_on (j := i1) (by rw [hnl]; exact e1)
    obtain ⟨i3, e3, a3, b3⟩ := numX_on (j := i2) (by rw [hst]; exact e2)
    obtain ⟨i4, e4, a4, b4⟩ := numX_on (j := i3) (by rw [hmo]; exact e3)
    obtain ⟨i5, e5, a5, b5⟩ := numX_on (j := i4) (by rw [hty]; exact e4)
    obtain ⟨i6, e6, a6, b6⟩ := numX_on (j := i5) (by rw [hk]; exact e5)
    exact ⟨i6, e6, by omega, b1⟩
  clear hk hty hmo hst hnl hnm
  cases hnm2 : nm.2 with
  | error e => rw [hnm2] at h; cases h
  | ok j' =>
    obtain ⟨i, e1, a1, b1⟩ := key j' hnm2
    refine ⟨i, e1, ?_⟩
    rw [hnm2] at h
    dsimp only at h
    split at h
    · cases h
    · split at h
      · obtain ⟨i2, e2, a2, b2⟩ := dataX_on _ h
        obtain ⟨i3, e3, a3, b3⟩ := numX_on e2
        injection e3 with e3
        exact ⟨by omega, b2 b3⟩
      · split at h
        · obtain ⟨i2, e2, a2, b2⟩ := takeX_on (orFail_on h)
          obtain ⟨i3, e3, a3, b3⟩ := numX_on e2
          injection e3 with e3
          exact ⟨by omega, b2⟩
        · injection h with h
          subst h
          exact ⟨a1, b1⟩
theorem treeX_error (gt : ByteArray → ByteArray → Bool) (L : List Int) (dry : Bool) (f : Nat) (acc : List Lf) (ns : List ByteArray) (dir : Bool) (e : Int) : treeX gt L dry f acc ns dir (.error e) = (acc, .error e) := by
  cases f <;> rfl
theorem treeX_stop (gt : ByteArray → ByteArray → Bool) (L : List Int) (dry : Bool) (f : Nat) (acc : List Lf) (ns : List ByteArray) (dir : Bool) (i : Nat) (h : ¬ (i < L.length ∧ L.getD i 0 ≠ 255)) : treeX gt L dry f acc ns dir (.ok i) = (acc, .ok i) := by
  cases f with
  | zero => rfl
  | succ f => simp only [treeX]; rw [if_neg h]
/-- the last leaf of a reading that goes on -/
structure Good (ns : List ByteArray) (ty : Int) : Prop where
  names : ∀ n ∈ ns, nameB n = true
  deep : ns.length ≤ 64
  size : (pathOf ns).size ≤ 1023
  dir : decide (ty = 2) = true ∨ ns ≠ []
theorem good_root : Good [] 2 := ⟨fun n h => by simp at h, by simp, by simp [pathOf, ByteArray.size], .inl rfl⟩
theorem leafX_Good {gt : ByteArray → ByteArray → Bool} {L : List Int} {dry : Bool} {ahead : List ByteArray} {ty : Int} {o : Er} {lf : Lf} {ns : List ByteArray} {j : Nat} (hb : bytesOk L) (ha : Good ahead ty)
    (h : leafX gt L dry ahead (decide (ty = 2)) o = ((lf, ns), .ok j)) : lf.path = pathOf ns ∧ Good ns lf.ty := by
  obtain ⟨h1, h2, h3, h4, h5⟩ := leafX_good hb ha.names ha.dir h
  exact ⟨h1, h2, h3, h4, .inr h5⟩

/-! ### Leaves in memory -/
theorem bytes_cell {w : World} {gb ob : Nat} {L : List Int} (hA : BytesAt w (some ⟨gb, ob, none⟩) L) (i : Nat) (h : i < L.length) : w.cell? ⟨gb, ob + i, none⟩ = some (.int .u8 (L.getD i 0)) := by
  rcases hA with h' | ⟨g', o', e, _, h'⟩
  · rw [h'] at h; simp at h
  · injection e with e; injection e with e1 e2; subst e1 e2
    rw [show L.getD i 0 = L[i] by simp [List.getD, h]]; exact h' i _ (List.getElem?_eq_getElem h)
def lcell (p : Lf × Value) : List Value := [.string p.1.path, .int .i64 p.1.ty, .int .i64 p.1.mode, .int .u64 p.1.stamp, p.2, .string p.1.tgt]
def lflat (tv : List (Lf × Value)) : List Value := (tv.map lcell).flatten
theorem lflat_snoc (tv : List (Lf × Value)) (p : Lf × Value) : lflat (tv ++ [p]) = lflat tv ++ lcell p := by simp [lflat]
theorem lcell_len (tv : List (Lf × Value)) : ∀ c ∈ tv.map lcell, c.length = 6 := fun c hc => by obtain ⟨p, _, rfl⟩ := List.mem_map.1 hc; rfl
theorem lflat_length (tv : List (Lf × Value)) : (lflat tv).length = tv.length * 6 := by
  have := flat_length (lcell_len tv); simpa [lflat] using this
/-- each leaf's data, a row of the call's own -/
def LO (w : World) (B : Nat) (tv : List (Lf × Value)) : Prop := ∀ p ∈ tv, OwnB w B p.2 p.1.data
theorem LO.nil (w : World) (B : Nat) : LO w B [] := fun p h => by simp at h
theorem LO.fr {w w' : World} {B : Nat} {tv : List (Lf × Value)} (h : LO w B tv) (q : Fr w w') : LO w' B tv := fun p hp => (h p hp).fr q
theorem LO.cells {w w' : World} {B g : Nat} {tv : List (Lf × Value)} {cs : Array Value} {t : TypeId} (h : LO w B tv) (q : w.grownBy w' (some g)) (H : w.heap[g]? = some (.cells cs t (0, 0))) (ht : 5 ≠ t) : LO w' B tv := fun p hp => own_grown (h p hp) q H ht
theorem LO.own {w w' : World} {B b s n : Nat} {tv : List (Lf × Value)} {e : TypeId} {v : Value} {xs : List Value} (h : LO w B tv) (q : w.grownBy w' v.ownBlock) (O : w.ownsRow b e s v n xs) (ht : 5 ≠ e) : LO w' B tv := fun p hp => World.ownsRow.kept (h p hp) q (own_ne2 (h p hp) O ht)
theorem LO.snoc {w : World} {B : Nat} {tv : List (Lf × Value)} {p : Lf × Value} (h : LO w B tv) (hp : OwnB w B p.2 p.1.data) : LO w B (tv ++ [p]) := fun q hq => by
  rcases List.mem_append.1 hq with h1 | h1
  · exact h q h1
  · rw [List.mem_singleton.1 h1]; exact hp
theorem LO.low {w : World} {B B' : Nat} {tv : List (Lf × Value)} (h : LO w B tv) (hb : B' ≤ B) : LO w B' tv := fun p hp => (h p hp).low hb
theorem info_leaf : ∃ i, Tryd.prog.info? 45 = some i ∧ i.zero = some (.agg #[.string ⟨#[]⟩, .int .i64 0, .int .i64 0, .int .u64 0, .slice none 0 0, .string ⟨#[]⟩]) ∧ i.size = 6 ∧ i.bytes = 80 := by
  have : (Tryd.prog.info? 45).map (fun i => (i.zero, i.size, i.bytes)) = some (some (.agg #[.string ⟨#[]⟩, .int .i64 0, .int .i64 0, .int .u64 0, .slice none 0 0, .string ⟨#[]⟩]), 6, 80) := by kernel_rfl
  obtain ⟨i, hi, he⟩ := Option.map_eq_some_iff.1 this
  injection he with e1 e2
  injection e2 with e2 e3
  exact ⟨i, hi, e1, e2, e3⟩

/-! ### A whole parcel -/
def rootLf (m s : Int) : Lf := ⟨⟨#[47]⟩, 2, m, s, [], ⟨#[]⟩⟩
def headB (L : List Int) : Bool := decide (5 ≤ L.length) && L.take 5 == [80, 82, 67, 76, 1]
def endE (crc : List Int → Int) (L : List Int) (t : List Lf) (sb : List Int) : Er → List Lf × Int
  | .error e => ([], e)
  | .ok j => if sb = le (crc (L.take (j - 4))) 4 then (if j < L.length then ([], 190) else (t, 0)) else ([], 192)
def endX (crc : List Int → Int) (L : List Int) (t : List Lf) (o : Er) : List Lf × Int := endE crc L t (takeX L 4 (takeX L 1 o).2).1 (takeX L 4 (takeX L 1 o).2).2
theorem endX_E (crc : List Int → Int) (L : List Int) (t : List Lf) (o : Er) : endX crc L t o = endE crc L t (takeX L 4 (takeX L 1 o).2).1 (takeX L 4 (takeX L 1 o).2).2 := rfl
def treeR (L : List Int) (m s : Int × Er) : List Lf × Er := treeX gtB L false (L.length + 1) [rootLf m.1 s.1] [] true s.2
def readX (crc : List Int → Int) (L : List Int) : List Lf × Int :=
  if headB L = true then
    endX crc L (treeR L (numX L 2 0 4095 (.ok 5)) (numX L 8 0 18446744073709551615 (numX L 2 0 4095 (.ok 5)).2)).1 (treeR L (numX L 2 0 4095 (.ok 5)) (numX L 8 0 18446744073709551615 (numX L 2 0 4095 (.ok 5)).2)).2
  else ([], 190)
end Go.Proofs.YtlnaeppbhjmocaaDoor
set_option linter.unusedSimpArgs false
set_option linter.unusedVariables false
namespace Go.Proofs.YtlnaeppbhjmocaaDoor
open Go.RowKit Go.Proofs Go.Proofs.YtlnaeppbhjmocaaDoorW.PrintWords Go.Proofs.YtlnaeppbhjmocaaDoorW.PrintMore

end Go.Proofs.YtlnaeppbhjmocaaDoor
set_option linter.unusedSimpArgs false
set_option linter.unusedVariables false
namespace Go.Proofs.YtlnaeppbhjmocaaDoor
def crcBit (x : Nat) : Nat := if x % 2 = 1 then x / 2 ^^^ 3988292384 else x / 2
def crcTab : List Nat := [0, 498536548, 997073096, 651767980, 1994146192, 1802195444, 1303535960, 1342533948, 3988292384, 4027552580, 3604390888, 3412177804, 2607071920, 2262029012, 2685067896, 3183342108]
theorem xor_half (a b : Nat) : (a ^^^ b) / 2 = a / 2 ^^^ b / 2 := by
  have h := Nat.shiftRight_xor_distrib (a := a) (b := b) (i := 1)
  simpa [Nat.shiftRight_succ, Nat.shiftRight_zero] using h
theorem xor_odd (a b : Nat) : (a ^^^ b) % 2 = (a % 2 + b % 2) % 2 := by
  have h := Nat.xor_mod_two_eq_one (a := a) (b := b)
  rcases Nat.mod_two_eq_zero_or_one a with ha | ha <;> rcases Nat.mod_two_eq_zero_or_one b with hb | hb <;> rcases Nat.mod_two_eq_zero_or_one (a ^^^ b) with hc | hc <;> rw [ha, hb, hc] at h <;> rw [ha, hb, hc] <;> simp at h ⊢
theorem crc_bit_any (x : Nat) (c : Nat) : crcBit (x ^^^ c) = crcBit x ^^^ crcBit c := by
  unfold crcBit
  rw [xor_odd, xor_half]
  rcases Nat.mod_two_eq_zero_or_one x with ha | ha <;> rcases Nat.mod_two_eq_zero_or_one c with hb | hb <;> rw [ha, hb]
  · simp
  · simp [Nat.xor_assoc]
  · simp only [Nat.zero_mod, Nat.add_zero, Nat.one_mod, if_true, Nat.reduceMod, Nat.reduceEqDiff, if_false, reduceIte, Nat.zero_ne_one]
    rw [Nat.xor_assoc, Nat.xor_comm (c / 2), Nat.xor_assoc]
  · simp only [Nat.reduceAdd, Nat.reduceMod, reduceIte, Nat.zero_ne_one]
    rw [Nat.xor_assoc, ← Nat.xor_assoc 3988292384, Nat.xor_comm 3988292384, Nat.xor_assoc (c / 2), Nat.xor_self, Nat.xor_zero]
theorem crc_even (h : Nat) : crcBit (2 * h) = h := by
  unfold crcBit; rw [if_neg (by omega)]; omega
theorem split16 (x : Nat) : x = (16 * (x / 16)) ^^^ (x % 16) := by
  have h : x % 16 < 2 ^ 4 := by omega
  have h2 : 2 ^ 4 * (x / 16) + x % 16 = 2 ^ 4 * (x / 16) ||| x % 16 := Nat.two_pow_add_eq_or_of_lt h _
  have h3 : (16 * (x / 16)) ^^^ (x % 16) = 16 * (x / 16) ||| x % 16 := by
    apply Nat.eq_of_testBit_eq
    intro i
    rw [Nat.testBit_xor, Nat.testBit_or]
    by_cases hi : i < 4
    · have : (16 * (x / 16)).testBit i = false := by
        have := Nat.testBit_two_pow_mul (i := 4) (a := x / 16) (j := i)
        simp at this
        rw [this]; simp; omega
      rw [this]; simp
    · have : (x % 16).testBit i = false := Nat.testBit_lt_two_pow (Nat.lt_of_lt_of_le h (Nat.pow_le_pow_right (by decide) (by omega)))
      rw [this]; simp
  rw [h3]
  have : x = 16 * (x / 16) + x % 16 := by omega
  simp only [Nat.reducePow] at h2
  omega
theorem crc_four (x : Nat) : crcBit (crcBit (crcBit (crcBit x))) = x / 16 ^^^ crcTab.getD (x % 16) 0 := by
  have key : ∀ l : Nat, l < 16 → crcBit (crcBit (crcBit (crcBit l))) = crcTab.getD l 0 := by decide
  conv => lhs; rw [split16 x]
  rw [crc_bit_any, crc_bit_any, crc_bit_any, crc_bit_any, key (x % 16) (Nat.mod_lt _ (by decide))]
  congr 1
  rw [show 16 * (x / 16) = 2 * (8 * (x / 16)) by omega, crc_even, show 8 * (x / 16) = 2 * (4 * (x / 16)) by omega, crc_even, show 4 * (x / 16) = 2 * (2 * (x / 16)) by omega, crc_even, crc_even]
end Go.Proofs.YtlnaeppbhjmocaaDoor
set_option linter.unusedSimpArgs false
set_option linter.unusedVariables false
namespace Go.Proofs.YtlnaeppbhjmocaaDoor
open Go.RowKit Go.Proofs Go.Proofs.YtlnaeppbhjmocaaDoorW.PrintWords Go.Proofs.YtlnaeppbhjmocaaDoorW.PrintLast Go.Proofs.YtlnaeppbhjmocaaDoorW.PrintMore

def crcIt : Nat → Nat → Nat
  | 0, x => x
  | n + 1, x => crcIt n (crcBit x)
def crcByte (x : Nat) (b : Int) : Nat := crcIt 8 (x ^^^ b.toNat)
def crcReg : List Int → Nat → Nat
  | [], x => x
  | b :: r, x => crcReg r (crcByte x b)
/-- the check sum -/
def crcN (L : List Int) : Nat := crcReg L 4294967295 ^^^ 4294967295
def crcI (L : List Int) : Int := (crcN L : Int)
theorem crcBit_lt {x : Nat} (h : x < 4294967296) : crcBit x < 4294967296 := by
  unfold crcBit
  split
  · exact Nat.xor_lt_two_pow (n := 32) (by omega) (by decide)
  · omega
theorem crcIt_lt {n x : Nat} (h : x < 4294967296) : crcIt n x < 4294967296 := by
  induction n generalizing x with
  | zero => exact h
  | succ n ih => exact ih (crcBit_lt h)
theorem xor_byte_lt {x : Nat} {b : Int} (h : x < 4294967296) (hb : 0 ≤ b ∧ b ≤ 255) : x ^^^ b.toNat < 4294967296 := Nat.xor_lt_two_pow (n := 32) h (by omega)
theorem crcByte_lt {x : Nat} {b : Int} (h : x < 4294967296) (hb : 0 ≤ b ∧ b ≤ 255) : crcByte x b < 4294967296 := crcIt_lt (xor_byte_lt h hb)
theorem crcReg_lt {L : List Int} (hL : bytesOk L) : ∀ {x : Nat}, x < 4294967296 → crcReg L x < 4294967296 := by
  induction L with
  | nil => exact fun h => h
  | cons b r ih => exact fun h => ih (fun x hx => hL x (List.mem_cons_of_mem _ hx)) (crcByte_lt h (hL b List.mem_cons_self))
theorem crcN_lt {L : List Int} (hL : bytesOk L) : crcN L < 4294967296 := Nat.xor_lt_two_pow (n := 32) (crcReg_lt hL (by decide)) (by decide)
theorem crcI_rg {L : List Int} (hL : bytesOk L) : 0 ≤ crcI L ∧ crcI L ≤ 4294967295 := by have := crcN_lt hL; unfold crcI; omega
theorem xor32 (a b : Nat) (ha : a < 4294967296) (hb : b < 4294967296) : Go.bits .xor .u32 a b = ((a ^^^ b : Nat) : Int) := by
  have hp : (2 : Nat) ^ IntKind.u32.bits = 4294967296 := rfl
  have ha' : a % 2 ^ IntKind.u32.bits = a := Nat.mod_eq_of_lt ha
  have hb' : b % 2 ^ IntKind.u32.bits = b := Nat.mod_eq_of_lt hb
  simp only [Go.bits, BitVec.ofInt_natCast, BitVec.toNat_xor, BitVec.toNat_ofNat, ha', hb']
  have := Nat.xor_lt_two_pow (n := 32) ha hb
  rw [IntKind.wrap_u32]; omega
theorem and32 (a : Nat) (ha : a < 4294967296) : Go.bits .and .u32 (a : Int) 15 = ((a % 16 : Nat) : Int) := by
  have h := (bits_nat .u32 32 (by decide) (fun n h0 h1 => by rw [IntKind.wrap_u32]; omega) a 15 ha (by decide)).1
  have h2 : a &&& 15 = a % 16 := Nat.and_two_pow_sub_one_eq_mod a 4
  rw [h2] at h
  exact h
/-! ### The program's sum -/
theorem crc8_tab (x : Nat) : crcIt 8 x = (x / 16 ^^^ crcTab.getD (x % 16) 0) / 16 ^^^ crcTab.getD ((x / 16 ^^^ crcTab.getD (x % 16) 0) % 16) 0 := by
  have h1 := crc_four x
  have h2 := crc_four (x / 16 ^^^ crcTab.getD (x % 16) 0)
  show crcBit (crcBit (crcBit (crcBit (crcBit (crcBit (crcBit (crcBit x))))))) = _
  rw [h1, h2]
theorem tab_lt (i : Nat) : crcTab.getD i 0 < 4294967296 := by
  by_cases h : i < 16
  · have : ∀ i, i < 16 → crcTab.getD i 0 < 4294967296 := by decide
    exact this i h
  · rw [List.getD_eq_getElem?_getD, List.getElem?_eq_none (by simp [crcTab]; omega)]; decide
theorem fours_cell {w : World} (hw : Ok w) (i : Nat) (h : i < 16) : w.cell? ⟨0, i, none⟩ = some (.int .u32 (crcTab.getD i 0)) := by
  have hf := hw.fours
  simp only [World.var?, gFours, Option.bind_some] at hf
  split at hf
  · rename_i cs t fz heq
    injection hf with hf
    subst hf
    simp only [World.cell?, heq]
    show foursTab[i]? = some (.int .u32 (crcTab.getD i 0))
    rcases (by omega : i = 0 ∨ i = 1 ∨ i = 2 ∨ i = 3 ∨ i = 4 ∨ i = 5 ∨ i = 6 ∨ i = 7 ∨ i = 8 ∨ i = 9 ∨ i = 10 ∨ i = 11 ∨ i = 12 ∨ i = 13 ∨ i = 14 ∨ i = 15) with rfl | rfl | rfl | rfl | rfl | rfl | rfl | rfl | rfl | rfl | rfl | rfl | rfl | rfl | rfl | rfl <;> rfl
  · cases hf
set_option maxHeartbeats 3200000 in
set_option maxRecDepth 100000 in
theorem sum_any (A : Option Addr) (c : Nat) (L : List Int) (hb : bytesOk L) (hc : L.length ≤ c) (hL : L.length ≤ 1073741824) (w : World) (hw : Ok w) (hA : BytesAt w A L) :
    Calls Tryd.prog 40 #[.slice A L.length c] w fun e w' => e = .returned (.int .u32 (crcI L)) ∧ w' = w := by
  have HC : Hid (∀ j (h : j < L.length), ∃ a, A = some a ∧ w.cell? (a.add j) = some (.int .u8 (L.getD j 0))) := Lib.hid (fun j hj => by
    rcases hA with h | ⟨g', o', rfl, _, h⟩
    · rw [h] at hj; simp at hj
    · exact ⟨_, rfl, by rw [Lib.add_plain, show L.getD j 0 = L[j] by simp [List.getD, hj]]; exact h j _ (List.getElem?_eq_getElem hj)⟩)
  have HT := Lib.hid (fours_cell hw)
  have HBy := Lib.hid hb
  clear hA hb
  go_enter Tryd.func40, Tryd.ntmps40
  go_wp2_with fail
  go_loop [3, 8] (fun v3 v8 => ∃ k x : Nat, k ≤ L.length ∧ x < 4294967296 ∧ Hid (crcReg (L.drop k) x = crcReg L 4294967295) ∧ v3 = .int .u32 x ∧ v8 = .int .i64 k) (fun _ v8 => L.length - (intOf v8).toNat)
  case atStart => exact ⟨0, 4294967295, Nat.zero_le _, by decide, Lib.hid rfl, rfl, rfl⟩
  case round =>
    obtain ⟨k, x, hk, hx, HR, rfl, rfl⟩ := hrel
    by_cases hlt : k < L.length
    · obtain ⟨a, rfl, hcell⟩ := HC.out k hlt
      have hbk := getD_byte HBy.out k
      obtain ⟨b, hbb⟩ : ∃ b : Nat, L.getD k 0 = (b : Int) := ⟨_, (Int.toNat_of_nonneg hbk.1).symm⟩
      rw [hbb] at hcell hbk
      have d1 : decide ((k : Int) < (L.length : Int)) = true := decide_eq_true (by omega)
      have d2 : (0 : Int) ≤ (k : Int) := by omega
      have d3 : (k : Int) < (L.length : Int) := by omega
      obtain ⟨z, hz⟩ : ∃ z, x ^^^ b = z := ⟨_, rfl⟩
      have hzl : z < 4294967296 := by rw [← hz]; exact Nat.xor_lt_two_pow (n := 32) hx (by omega)
      have e1 := xor32 x b hx (by omega)
      rw [hz] at e1
      have e2 := and32 z hzl
      have e4 := HT.out (z % 16) (by omega)
      obtain ⟨t1, ht1⟩ : ∃ t, crcTab.getD (z % 16) 0 = t := ⟨_, rfl⟩
      have hl1 : t1 < 4294967296 := by rw [← ht1]; exact tab_lt _
      rw [ht1] at e4
      obtain ⟨y, hy⟩ : ∃ y, z / 16 ^^^ t1 = y := ⟨_, rfl⟩
      have hyl : y < 4294967296 := by rw [← hy]; exact Nat.xor_lt_two_pow (n := 32) (by omega) hl1
      have e5 := xor32 (z / 16) t1 (by omega) hl1
      rw [hy, Int.natCast_ediv] at e5
      have e6 := and32 y hyl
      have e7 := HT.out (y % 16) (by omega)
      obtain ⟨t2, ht2⟩ : ∃ t, crcTab.getD (y % 16) 0 = t := ⟨_, rfl⟩
      have hl2 : t2 < 4294967296 := by rw [← ht2]; exact tab_lt _
      rw [ht2] at e7
      obtain ⟨v, hv⟩ : ∃ v, y / 16 ^^^ t2 = v := ⟨_, rfl⟩
      have hvl : v < 4294967296 := by rw [← hv]; exact Nat.xor_lt_two_pow (n := 32) (by omega) hl2
      have e8 := xor32 (y / 16) t2 (by omega) hl2
      rw [hv, Int.natCast_ediv] at e8
      have hnew : crcByte x (b : Int) = v := by
        unfold crcByte
        rw [Int.toNat_natCast, hz, crc8_tab, ht1, hy, ht2, hv]
      have hdrop : L.drop k = (b : Int) :: L.drop (k + 1) := by rw [drop_getD hlt, hbb]
      have HN : Hid (crcReg (L.drop (k + 1)) v = crcReg L 4294967295) := Lib.hid (by rw [← HR.out, hdrop, ← hnew]; rfl)
      replace e5 : Go.bits .xor .u32 ((z : Int) / 16) (t1 : Int) = (y : Int) := e5
      replace e8 : Go.bits .xor .u32 ((y : Int) / 16) (t2 : Int) = (v : Int) := e8
      clear hnew hdrop hz ht1 hy ht2 hv HR hbb
      go_wp2
      go_round
      case rel => exact ⟨k + 1, v, by omega, hvl, HN, rfl, by go_num⟩
      case measure => simp [intOf]; omega
    · obtain rfl : k = L.length := by omega
      have hr : crcReg L 4294967295 = x := by rw [← HR.out, List.drop_length]; rfl
      have HRR := Lib.hid hr
      have d1 : (L.length : Int) ≤ (L.length : Int) := by omega
      clear hr HR hlt
      have hres : Go.bits .xor .u32 IntKind.u32.max (x : Int) = crcI L := by
        have h := xor32 4294967295 x (by decide) hx
        unfold crcI crcN
        rw [HRR.out, Nat.xor_comm]
        exact h
      have HRES := Lib.hid hres
      clear hres
      go_wp2
      all_goals first
        | (exact absurd (by assumption : IntKind.u32.signed = true) (by decide))
        | (go_ret; exact ⟨by rw [← HRES.out]; rfl, rfl⟩)
end Go.Proofs.YtlnaeppbhjmocaaDoor
set_option linter.unusedSimpArgs false
set_option linter.unusedVariables false
namespace Go.Proofs.YtlnaeppbhjmocaaDoor.Reg
open Go Go.RowKit Go.Sort
theorem wpMainT_enter {P : Program} {ops : Array Oper} {S : World → Prop} {D : Nat} {Q : Exit → Act → World → Prop} {k : Nat} {rest : List Nat} {o : Oper} {fn : FuncId} {args : Array Value} {a : Act} {w : World} {R : Ending → World → Prop} (ho : ops[k]? = some o) (hw : Region.wanted o (yielded ops a.tmps) = true)
    (hr : (execOp a.eval o).run P w = .ok (.enter fn args) w) (hc : Calls P fn args w R) (h : ∀ e w', R e w' → ∃ v, e = .returned v ∧ (k = D ∨ S w') ∧ wpMainT P ops Q S D rest (a.put o.dst v) w') : wpMainT P ops Q S D (k :: rest) a w := by
  unfold wpMainT wpOp
  simp only [ho, hw, if_true]
  left
  unfold Oper.wp
  rw [hr, Oper.upon_enter]
  refine hc.mono fun e w' hR => ?_
  obtain ⟨v, rfl, hS, h'⟩ := h e w' hR
  exact ⟨hS, h'⟩
end Go.Proofs.YtlnaeppbhjmocaaDoor.Reg
namespace Go.Proofs.YtlnaeppbhjmocaaDoor
open Go.RowKit Go.Proofs Go.Proofs.YtlnaeppbhjmocaaDoorW.PrintWords Go.Proofs.YtlnaeppbhjmocaaDoorW.PrintMore

/-- a tree in memory, its lists the call's own -/
def TreeAt (w : World) (B : Nat) (v : Value) (lfs : List Lf) : Prop := ∃ a tv c, v = .slice a tv.length c ∧ tv.map Prod.fst = lfs ∧ w.ownsRow B 45 6 (.slice a tv.length c) tv.length (lflat tv) ∧ LO w B tv
theorem TreeAt.nil (w : World) (B : Nat) : TreeAt w B (.slice none 0 0) [] := ⟨none, [], 0, rfl, rfl, ⟨rfl, .inl ⟨rfl, rfl⟩⟩, LO.nil w B⟩
theorem strOfNums_inj {a b : List Int} (ha : bytesOk a) (hb : bytesOk b) (h : strOfNums a = strOfNums b) : a = b := by
  have h1 : (a.map fun x => UInt8.ofNat x.toNat) = (b.map fun x => UInt8.ofNat x.toNat) := by
    have := congrArg (fun s : ByteArray => s.data.toList) h
    simpa [strOfNums] using this
  have key : ∀ (a b : List Int), bytesOk a → bytesOk b → (a.map fun x => UInt8.ofNat x.toNat) = (b.map fun x => UInt8.ofNat x.toNat) → a = b := by
    intro a
    induction a with
    | nil => intro b _ _ h; cases b with
      | nil => rfl
      | cons _ _ => simp at h
    | cons x r ih =>
      intro b ha hb h
      cases b with
      | nil => simp at h
      | cons y s =>
        simp only [List.map_cons, List.cons.injEq] at h
        have hx := ha x List.mem_cons_self
        have hy := hb y List.mem_cons_self
        have e := congrArg UInt8.toNat h.1
        simp only [UInt8.toNat_ofNat'] at e
        have : x = y := by omega
        rw [this, ih s (fun z hz => ha z (List.mem_cons_of_mem _ hz)) (fun z hz => hb z (List.mem_cons_of_mem _ hz)) h.2]
  exact key a b ha hb h1
theorem own_block {w : World} {g B n size : Nat} {cs : Array Value} {t : TypeId} (H : w.heap[g]? = some (.cells cs t (0, 0))) (hB : B ≤ g) (hn : n ≤ maxLen) (hs : cs.size = n * size) : w.ownsRow B t size (.slice (some ⟨g, 0, none⟩) n n) n cs.toList :=
  ⟨hs, .inr ⟨g, n, cs, rfl, hB, H, Nat.le_refl _, hn, hs, by rw [← hs]; exact List.take_length⟩⟩
theorem headB_iff {L : List Int} (h : 5 ≤ L.length) : headB L = (L.getD 0 0 == 80 && L.getD 1 0 == 82 && L.getD 2 0 == 67 && L.getD 3 0 == 76 && L.getD 4 0 == 1) := by
  match L, h with
  | a :: b :: c :: d :: e :: r, _ => simp [headB, Bool.and_assoc]
theorem headB_len {L : List Int} (h : L.length < 5) : headB L = false := by unfold headB; rw [decide_eq_false (by omega)]; rfl

end Go.Proofs.YtlnaeppbhjmocaaDoor
set_option linter.unusedSimpArgs false
set_option linter.unusedVariables false
namespace Go.Proofs.YtlnaeppbhjmocaaDoor
open Go.ChangeShapes Go.WideShapes Go.ChangeAt Go.RowKit

/-! ### Bulk -/
section
variable {H : Type}
theorem bulk_pos (x : DataW H) : 1 ≤ Rows.uptoBulk x := by
  cases x with
  | lit l => cases l <;> simp [Rows.uptoBulk]
  | _ => simp [Rows.uptoBulk]
theorem bulk_len (es : List (DataW H)) : es.length ≤ Rows.uptoBulkAll es := by
  induction es with
  | nil => simp [Rows.uptoBulkAll]
  | cons x r ih => have := bulk_pos x; simp only [Rows.uptoBulkAll, List.length_cons]; omega
theorem bulk_get {es : List (DataW H)} {i : Nat} {e : DataW H} (h : es[i]? = some e) : Rows.uptoBulk e ≤ Rows.uptoBulkAll es := by
  induction es generalizing i with
  | nil => simp at h
  | cons x r ih =>
    cases i with
    | zero => simp at h; subst h; simp only [Rows.uptoBulkAll]; omega
    | succ i => have := ih (by simpa using h); simp only [Rows.uptoBulkAll]; omega
end

section
variable {H : Type} {enc : TypeId × Value → H} {w : World} {base : Nat} {sp : Nat → Bool} {held : Bool}

/-- a slice of structs of k cells -/
theorem open_rows {α : Type} [Inhabited α] {Ts e : TypeId} {k : Nat} (f : α → List Value) (hf : ∀ a, (f a).length = k) (hk : 0 < k) (ht : Tryd.prog.underlying Ts = some (.slice e)) (hc : Tryd.prog.cellsOf e = k) (Q : α → DataW H → Prop)
    (hopen : ∀ {fuel : Nat} {cs : List Value} {x : DataW H × List MemPlace}, DataW.trod enc Tryd.prog w base sp held fuel e cs = some x → ∃ a, Q a x.1 ∧ cs = f a)
    {fuel : Nat} {cs : List Value} {x : DataW H × List MemPlace} (h : DataW.trod enc Tryd.prog w base sp held fuel Ts cs = some x) :
    ∃ (l : List α) (A : Option Addr) (c : Nat), cs = [.slice A l.length c] ∧ Row w A k (l.map f) ∧ l.length ≤ c ∧ (A = none → c = 0) ∧ l.length ≤ Rows.uptoBulk x.1 ∧ ∀ a ∈ l, ∃ d, Q a d ∧ Rows.uptoBulk d ≤ Rows.uptoBulk x.1 := by
  rcases Deep.open_slice ht h with ⟨rfl, rfl⟩ | ⟨ad, len, cap, m, n, D, Pl, rfl, hb, hl, hm, hmm, rfl, hx⟩
  · exact ⟨[], none, 0, rfl, .inl rfl, Nat.le_refl _, fun _ => rfl, by simp, fun a ha => by cases ha⟩
  rw [hc] at hx
  have hle : len ≤ m := by rw [hmm]; split <;> omega
  have key : ∀ i, i < len → ∃ a : α, Q a (D i) ∧ w.cells? base (ad.add (i * k)) k = some (f a) := fun i hi => by
    obtain ⟨cs', h1, h2⟩ := hx i (by omega)
    obtain ⟨a, ha, rfl⟩ := hopen h2
    exact ⟨a, ha, h1⟩
  clear hx
  obtain ⟨F, hF⟩ := Deep.choose_lt (α := α) (p := fun i a => Q a (D i) ∧ w.cells? base (ad.add (i * k)) k = some (f a)) key
  have hbulk : Rows.uptoBulkAll ((List.range len).map D) ≤ Rows.uptoBulk (DataW.slice ((List.range len).map D) ((List.range (m - len)).map fun j => D (len + j))) := by
    simp only [Rows.uptoBulk]; omega
  refine ⟨(List.range len).map F, some ad, cap, by simp, ?_, by simpa using hl, (fun e => by cases e), ?_, ?_⟩
  · cases len with
    | zero => exact .inl rfl
    | succ len =>
      right
      have cellsF : ∀ i, i < len + 1 → ∀ j, j < k → w.cell? (ad.add (i * k + j)) = (f (F i))[j]? := fun i hi j hj => by
        have := (World.cells?_some (hF i hi).2).2.2 j hj
        rwa [Deep.add_add] at this
      obtain ⟨b, o, spot⟩ := ad
      have h0 := cellsF 0 (by omega) 0 hk
      obtain ⟨v0, hv0⟩ : ∃ v, (f (F 0))[0]? = some v := ⟨_, List.getElem?_eq_getElem (by rw [hf]; exact hk)⟩
      rw [hv0] at h0
      have hspot : spot = none := by simpa [Addr.add] using World.cell?_spot h0
      subst hspot
      refine ⟨b, o, rfl, by simpa [Addr.add] using World.block_lt_of_cell? w _ h0, fun i c hi j v hj hv => ?_⟩
      have hi' : i < len + 1 := by have := (List.getElem?_eq_some_iff.1 hi).1; simpa using this
      have hce : c = f (F i) := by
        simp only [List.getElem?_map, List.getElem?_range hi', Option.map_some, Option.some.injEq] at hi
        exact hi.symm
      subst hce
      have := cellsF i hi' j hj
      rw [Lib.add_plain, hv] at this
      rw [Nat.add_assoc]; exact this
  · have := bulk_len ((List.range len).map D)
    simp only [List.length_map, List.length_range] at this ⊢
    omega
  · intro a ha
    obtain ⟨i, hi, rfl⟩ := List.mem_map.1 ha
    have hi' : i < len := by simpa using hi
    refine ⟨D i, (hF i hi').1, ?_⟩
    exact Nat.le_trans (bulk_get (es := (List.range len).map D) (i := i) (e := D i) (by simp [hi'])) hbulk
end

theorem open_u8s {H : Type} {enc : TypeId × Value → H} {w : World} {base : Nat} {sp : Nat → Bool} {held : Bool} {fuel : Nat} {cs : List Value} {x : DataW H × List MemPlace} (h : DataW.trod enc Tryd.prog w base sp held fuel 22 cs = some x) :
    ∃ (L : List Int) (A : Option Addr) (c : Nat), cs = [.slice A L.length c] ∧ BytesAt w A L ∧ bytesOk L ∧ L.length ≤ c ∧ (A = none → c = 0) ∧ L.length ≤ Rows.uptoBulk x.1 := by
  have hc1 : Tryd.prog.cellsOf 5 = 1 := by kernel_rfl
  obtain ⟨L, A, c, h1, hR, h3, h4, h5, h6⟩ := open_rows (fun a : Int => [Value.int .u8 a]) (fun _ => rfl) (by decide) Tryd.underlying22 hc1 (fun a _ => 0 ≤ a ∧ a ≤ 255)
    (fun h => by
      obtain ⟨a, e0, rfl, w0⟩ := DataW.trod_int Tryd.underlying5 h
      refine ⟨a, ?_, e0⟩
      have := w0
      simp [Lit.wf, IntKind.min, IntKind.max, IntKind.signed, IntKind.bits] at this
      omega) h
  refine ⟨L, A, c, h1, ?_, fun a ha => (h6 a ha).choose_spec.1, h3, h4, h5⟩
  rcases hR with h | ⟨g, o, rfl, hg, hc⟩
  · left; simpa using h
  · refine .inr ⟨g, o, rfl, hg, fun i a hi => ?_⟩
    have := hc i [.int .u8 a] (by simp [hi]) 0 (.int .u8 a) Nat.zero_lt_one rfl
    simpa using this

theorem tab_of_reads {P : Program} {w : World} {name : String} {k : IntKind} {zs : List Int} {g : Nat} {t e : TypeId} {n : Nat}
    (hg : P.globalNamed name = some g) (hty : (P.globals[g]?).map (·.type) = some t) (ht : P.underlying t = some (.array n e)) (he : P.underlying e = some (.int k)) (hce : P.cellsOf e = 1) (hct : P.cellsOf t = n)
    (h : Lib.VarReads P w name (Lib.tabData k zs)) : Lib.TabIs P w name k zs := by
  obtain ⟨g', t', cs, fuel, p, hg', ht', hvar, hd⟩ := h
  obtain rfl := Option.some.inj (hg.symm.trans hg')
  obtain rfl := Option.some.inj (hty.symm.trans ht')
  unfold Lib.TabIs
  rw [hvar, ← Lib.cells_of_tab ht he hce hct hd]
theorem okFours {w : World} (h : Lib.VarReads Tryd.prog w "shale/words.fours" Rows.laid_shale_words_fours) : w.var? Tryd.prog "shale/words.fours" = some foursTab :=
  tab_of_reads gFours (t := 90) (e := 47) (n := 16) (k := .u32) (zs := crcTab.map fun n : Nat => (n : Int)) (by kernel_rfl) (by kernel_rfl) (by kernel_rfl) (by kernel_rfl) (by kernel_rfl) h
theorem sizeOf {W : World} (h : W.ShapedOpen Tryd.prog) : 4 ≤ W.heap.size := by
  have hs : (((begin Tryd.prog (fun _ _ => 0) default).world.heap[3]?).bind Obj.row?).isSome = true := by kernel_rfl
  obtain ⟨⟨zero, t⟩, h0⟩ := Option.isSome_iff_exists.1 hs
  obtain ⟨cs, hh, _⟩ := h.1 3 zero t (of_decide_eq_true (by kernel_rfl)) h0
  exact (Array.getElem?_eq_some_iff.1 hh).1
theorem own : ownKnob Tryd.prog.godebug = none := by kernel_rfl
theorem laidOut : laidOutB Tryd.prog = true := by kernel_rfl
end Go.Proofs.YtlnaeppbhjmocaaDoor
set_option linter.unusedSimpArgs false
set_option linter.unusedVariables false
namespace Go.Proofs.YtlnaeppbhjmocaaDoor
open Go.RowKit Go.Proofs

theorem zeroCells_one (z : Value) (hz : z.cells = #[z]) (n : Nat) : (Builtin.zeroCells z.cells n).toList = List.replicate n z := by
  rw [hz]
  unfold Builtin.zeroCells
  apply List.ext_getElem?
  intro j
  by_cases hj : j < n
  · simp [hj, Nat.mod_one]
  · simp [hj]
theorem ownB_lit (w : World) (B : Nat) (xs : List Int) (cap : Nat) (hB : B ≤ w.heap.size) (hc : xs.length ≤ cap) (hm : cap ≤ maxLen) :
    OwnB (w.alloc (.cells ((xs.map (Value.int .u8)).toArray ++ Builtin.zeroCells (Value.int .u8 0).cells (cap - xs.length)) 5)) B (.slice (some ⟨w.heap.size, 0, none⟩) xs.length cap) xs := by
  refine ⟨by simp, .inr ⟨w.heap.size, cap, _, rfl, hB, heap_alloc_new w _, hc, hm, ?_, ?_⟩⟩
  · have := congrArg List.length (zeroCells_one (Value.int .u8 0) rfl (cap - xs.length))
    rw [Array.length_toList, List.length_replicate] at this
    simp [this]
    omega
  · simp
theorem append_zeros (ty : TypeId) (B : Nat) (v : Value) (xs : List Int) (m : Nat) (h1 : 1 ≤ m) (h8 : m ≤ 16777216) (w : World) (ho : OwnB w B v xs) (hl : xs.length ≤ 1099511627776) (hB : B ≤ w.heap.size) :
    ∃ v' w', (Builtin.append_ #[22, 3] ty #[v, .int .i64 (m : Int)]).run Tryd.prog w = .ok v' w' ∧ OwnB w' B v' (xs ++ List.replicate m 0) ∧ w.grownBy w' v.ownBlock ∧ (v'.ownBlock = v.ownBlock ∨ v'.ownBlock = some w.heap.size) := by
  obtain ⟨i, hi, hz, hs, hb⟩ := info_byte
  have ht := Tryd.underlying22
  have hu := Tryd.underlying3
  have hw : IntKind.i64.wrap (m : Int) = (m : Int) := IntWalk.i64_in _ ⟨by omega, by omega⟩
  have hn0 : ¬ ((m : Int) < 0) := by omega
  have hm0 : m ≠ 0 := by omega
  have hb2 : ¬ (281474976710656 < (m : Int)) := by omega
  have hmp : ¬ ((m : Int) ≤ 0) := by omega
  have hmx : ¬ (9223372036854775807 < max (m : Int) 0) := by omega
  have hbig : ¬ (281474976710656 < (m : Int) * (1 : Nat)) := by omega
  have hzl : (Builtin.zeroCells (Value.int .u8 0).cells m).toList = List.replicate m (.int .u8 0) := zeroCells_one _ rfl m
  have hza : Builtin.zeroCells (Value.int .u8 0).cells m = (List.replicate m (Value.int .u8 0)).toArray := by rw [← hzl]
  obtain ⟨hlen, ho2⟩ := ho
  rcases ho2 with ⟨rfl, hx0⟩ | ⟨g, cap, cur, rfl, hbg, hg, hnc, hcm, hcs, htake⟩
  · have hx : xs = [] := List.eq_nil_of_length_eq_zero hx0
    subst hx
    have h63' : ¬ (9223372036854775807 < (m : Int)) := by omega
    have h48' : ¬ (281474976710656 < Builtin.nextslicecap m 0) := by rw [nextslicecap_zero (by omega)]; omega
    have hr : (Builtin.append_ #[22, 3] ty #[.slice none 0 0, .int .i64 (m : Int)]).run Tryd.prog w = .ok (.slice (some ⟨w.heap.size, 0, none⟩) m (grownCap w m 0 5)) (w.drew.alloc (.cells ((List.replicate m (Value.int .u8 0)).toArray ++ Builtin.zeroCells (Value.int .u8 0).cells (grownCap w m 0 5 - m)) 5)) := by
      simp [Builtin.append_, run_underlying ht, run_underlying hu, sizeOf, typeInfo, zeroValue, hi, hz, hs, hb, asInt, asIntOf, hw, hmp, hmx, hb2, hn0, hm0, hbig, h63', h48', Question.forced, run_firstCells_none, newRow, grownCap, hza]
    have hge := grownCap_ge w m 0 5
    refine ⟨_, _, hr, ?_, ⟨rfl, rfl, rfl, by simp, fun k hk _ => heap_alloc_old w.drew _ hk⟩, .inr rfl⟩
    have := ownB_lit w.drew B ([] ++ List.replicate m (0 : Int)) (grownCap w m 0 5) hB (by simpa using hge) (grownCap_le_maxLen w m 0 5 (by unfold maxLen; omega))
    simp only [List.nil_append, List.length_replicate, List.map_replicate] at this
    simp only [List.nil_append]
    exact this
  · by_cases hroom : xs.length + m ≤ cap
    · have hst := run_storeCells_at Tryd.prog g xs.length 5 (List.replicate m (Value.int .u8 0)) 0 cur w hg (by simp; omega) (by intro u hu; rw [(List.mem_replicate.1 hu).2]; rfl)
      simp only [Nat.add_zero, List.length_replicate] at hst
      have hr : (Builtin.append_ #[22, 3] ty #[.slice (some ⟨g, 0, none⟩) xs.length cap, .int .i64 (m : Int)]).run Tryd.prog w = .ok (.slice (some ⟨g, 0, none⟩) (xs.length + m) cap) (w.setRow g (cur.toList.take xs.length ++ List.replicate m (Value.int .u8 0) ++ cur.toList.drop (xs.length + m)).toArray) := by
        simp [Builtin.append_, run_underlying ht, run_underlying hu, sizeOf, typeInfo, zeroValue, hi, hz, hs, hb, asInt, asIntOf, hw, hmp, hmx, hb2, hn0, hm0, hbig, hroom, hza, hst, Addr.add_lit]
      refine ⟨_, _, hr, ⟨by simp, .inr ⟨g, cap, _, by simp, hbg, setRow_heap w g cur _ 5 _ hg, by simpa using hroom, hcm, ?_, ?_⟩⟩, ⟨rfl, rfl, rfl, by simp, fun k _ hk => setRow_other w g k _ (fun e => hk (by simp [Value.ownBlock, e]))⟩, .inl rfl⟩
      · simp
        omega
      · rw [Nat.mul_one] at htake
        rw [htake, List.map_append, List.map_replicate]
        have hlen2 : (List.map (Value.int .u8) xs ++ List.replicate m (Value.int .u8 0)).length = xs.length + m := by simp
        simp only [List.length_append, List.length_replicate, Nat.mul_one]
        rw [← hlen2]
        exact List.take_left
    · have holds : ∀ j u, (xs.map (Value.int .u8))[j]? = some u → w.drew.cell? ((⟨g, 0, none⟩ : Addr).add j) = some u := fun j u hj => by
        have hj' : j < xs.length := by simpa using (List.getElem?_eq_some_iff.1 hj).1
        rw [Lib.add_plain, Nat.zero_add]
        show w.cell? ⟨g, j, none⟩ = some u
        rw [cell_of_row w g j cur 5 (0, 0) hg, ← hj, ← htake, List.getElem?_take, if_pos (by omega)]
        simp
      have hfo := run_firstCells_some (P := Tryd.prog) w.drew 1 xs.length ⟨g, 0, none⟩ xs.length cap (xs.map (Value.int .u8)) (by simp) holds
      have h63' : ¬ (9223372036854775807 < ((xs.length : Int) + (m : Int))) := by omega
      have h63'' : ¬ (9223372036854775807 < ((xs.length : Int) + max (m : Int) 0)) := by omega
      have hgf := growslice_fits (need := xs.length + m) (old := cap) (bytes := 1) (by omega) (by omega)
      have h48' : ¬ (281474976710656 < Builtin.nextslicecap (xs.length + m) cap) := by omega
      have hr : (Builtin.append_ #[22, 3] ty #[.slice (some ⟨g, 0, none⟩) xs.length cap, .int .i64 (m : Int)]).run Tryd.prog w = .ok (.slice (some ⟨w.heap.size, 0, none⟩) (xs.length + m) (grownCap w (xs.length + m) cap 5))
          (w.drew.alloc (.cells (((xs ++ List.replicate m 0).map (Value.int .u8)).toArray ++ Builtin.zeroCells (Value.int .u8 0).cells (grownCap w (xs.length + m) cap 5 - (xs ++ List.replicate m (0 : Int)).length)) 5)) := by
        simp [Builtin.append_, run_underlying ht, run_underlying hu, sizeOf, typeInfo, zeroValue, hi, hz, hs, hb, asInt, asIntOf, hw, hmp, hmx, hb2, hn0, hm0, hbig, hroom, hza, h63', h63'', h48', Question.forced, hfo, newRow, grownCap]
        refine congrArg (fun a => World.alloc w.drew (Obj.cells a 5)) (Array.ext' ?_)
        simp only [Array.toList_append, List.append_assoc, Array.toList_replicate]
      have hge := grownCap_ge w (xs.length + m) cap 5
      refine ⟨_, _, hr, ?_, ⟨rfl, rfl, rfl, by simp, fun k hk _ => heap_alloc_old w.drew _ hk⟩, .inr rfl⟩
      have := ownB_lit w.drew B (xs ++ List.replicate m (0 : Int)) (grownCap w (xs.length + m) cap 5) hB (by simpa using hge) (grownCap_le_maxLen w _ cap 5 (by unfold maxLen; omega))
      simp only [List.length_append, List.length_replicate] at this ⊢
      exact this
end Go.Proofs.YtlnaeppbhjmocaaDoor
set_option linter.unusedSimpArgs false
set_option linter.unusedVariables false
namespace Go.Proofs.YtlnaeppbhjmocaaDoor
open Go.RowKit Go.Proofs Go.Proofs.YtlnaeppbhjmocaaDoorW.PrintWords Go.Proofs.YtlnaeppbhjmocaaDoorW.PrintLast Go.Proofs.YtlnaeppbhjmocaaDoorW.PrintMore

/-- append of the call's own blocks: the row stays, or is a new one -/
def Ownish (w : World) (r r' : Option Nat) : Prop := r' = r ∨ ∃ k, r' = some k ∧ w.heap.size ≤ k
theorem grown_ish {a b c : World} {r r' : Option Nat} (h : a.grownBy b r) (k : b.grownBy c r') (hr : Ownish a r r') : a.grownBy c r := by
  rcases hr with e | ⟨x, e, hx⟩
  · subst e; exact grown_trans h k
  · subst e; exact grown_own h k (fun i hi => by injection hi with hi; omega)
theorem grown_none {a b : World} {r : Option Nat} (q : a.grownBy b none) : a.grownBy b r := ⟨q.os, q.tape, q.output, q.size, fun i hi _ => q.block i hi (by simp)⟩
theorem Ownish.step {a b : World} {r r' r'' : Option Nat} (h : Ownish a r r') (hs : a.heap.size ≤ b.heap.size) (k : r'' = r' ∨ r'' = some b.heap.size) : Ownish a r r'' := by
  rcases k with e | e
  · rw [e]; exact h
  · exact .inr ⟨_, e, hs⟩
set_option maxHeartbeats 3200000 in
set_option maxRecDepth 100000 in
theorem put_any (B : Nat) (A : Option Addr) (c : Nat) (xs : List Int) (x : Int) (n : Nat) (h0 : 0 ≤ x) (hx : x ≤ 18446744073709551615) (hn : n ≤ 8) (w : World) (hw : Ok w) (hO : OwnB w B (.slice A xs.length c) xs) (hB : B ≤ w.heap.size) (hl : xs.length ≤ 1099511627776) :
    Calls Tryd.prog 39 #[.slice A xs.length c, .int .u64 x, .int .i64 n] w fun e w' => ∃ a d, e = .returned (.slice a (xs ++ le x n).length d) ∧ OwnB w' B (.slice a (xs ++ le x n).length d) (xs ++ le x n) ∧ w.grownBy w' (Value.slice A xs.length c).ownBlock ∧ Ownish w (Value.slice A xs.length c).ownBlock (Value.slice a (xs ++ le x n).length d).ownBlock := by
  obtain ⟨iB, hiB, hzB, hsB, hyB⟩ := info_byte
  have HiB := Lib.hid hiB
  have HO := Lib.hid hO
  clear hiB hO
  go_enter Tryd.func39, Tryd.ntmps39
  go_wp2_with fail
  go_loopg [0, 1, 8] n (fun k v0 v1 v8 wc => ∃ (i : Nat) (y : Int) (zs : List Int) (a : Option Addr) (d : Nat), i + k = n ∧ v0 = .slice a zs.length d ∧ v1 = .int .u64 y ∧ v8 = .int .i64 i ∧ 0 ≤ y ∧ y ≤ 18446744073709551615 ∧ zs.length = xs.length + i ∧ Hid (zs ++ le y k = xs ++ le x n) ∧ Hid (OwnB wc B (.slice a zs.length d) zs) ∧ Hid (w.grownBy wc (Value.slice A xs.length c).ownBlock) ∧ Hid (Ownish w (Value.slice A xs.length c).ownBlock (Value.slice a zs.length d).ownBlock))
  case atStart => exact ⟨0, x, xs, A, c, by omega, rfl, rfl, rfl, h0, hx, by omega, Lib.hid rfl, HO, Lib.hid (grown_refl w _), Lib.hid (.inl rfl)⟩
  case round =>
    obtain ⟨i, y, zs, a, d, hik, rfl, rfl, rfl, hy0, hy1, hzl, HE, O, G, S⟩ := hrel
    cases gk with
    | zero =>
      obtain rfl : i = n := by omega
      have d1 : decide ((i : Int) < (i : Int)) = false := decide_eq_false (by omega)
      have he : zs = xs ++ le x i := by have := HE.out; simpa [le] using this
      subst he
      go_wp2
      go_ret
      exact ⟨a, d, rfl, O.out, G.out, S.out⟩
    | succ k =>
      have d1 : decide ((i : Int) < (n : Int)) = true := decide_eq_true (by omega)
      have w8 : IntKind.u8.wrap y = y % 256 := by rw [IntKind.wrap_u8]
      obtain ⟨w3, g3, hg3, hw3, q3, hz3, H3⟩ : ∃ w1 g, wr.heap.size = g ∧ wr.alloc (.cells #[.int .u8 (y % 256)] 5) = w1 ∧ wr.grownBy w1 none ∧ g < w1.heap.size ∧ w1.heap[g]? = some (.cells #[.int .u8 (y % 256)] 5 (0, 0)) :=
        ⟨_, _, rfl, rfl, ⟨rfl, rfl, rfl, by simp, fun j hj _ => heap_alloc_old wr _ hj⟩, by simp, heap_alloc_new wr _⟩
      have O3 : OwnB w3 B (.slice a zs.length d) zs := World.ownsRow.kept O.out q3 (by cases (Value.slice a zs.length d).ownBlock <;> simp)
      have hbw : B ≤ w3.heap.size := by have := G.out.size; have := q3.size; omega
      obtain ⟨v5, w5, hap, O5, q5, hob⟩ := append_src Tryd.underlying22 HiB.out hzB hsB hyB rfl (by decide) 22 O3 (some ⟨g3, 0, none⟩) 1 1 _ (Src.lit H3 1 1) (by simp) (by simp [Value.oneCell']) (by unfold maxLen; omega) (by omega) hbw
      have hO5 : OwnB w5 B v5 (zs ++ [y % 256]) := by unfold OwnB; rw [List.length_append, List.map_append]; simpa using O5
      obtain ⟨a5, d5, hv5⟩ := hO5.form
      subst hv5
      have HO5 := Lib.hid hO5
      have hgr : w.grownBy w5 (Value.slice A xs.length c).ownBlock := grown_ish (grown_trans G.out (grown_none q3)) q5 S.out
      clear O5 O3 hO5
      go_wp2_with (at_builtin; refine wpList_append_run rfl _ _ 22 22 rfl (by simp [Act.eval]) (by simp [Act.eval]) hap ?_)
      go_roundg k
      case measure => omega
      case rel =>
        refine ⟨i + 1, y / 256, zs ++ [y % 256], a5, d5, by omega, by simp [hzl], rfl, by go_num, by omega, by omega, by simp [hzl]; omega, Lib.hid ?_, HO5, Lib.hid hgr, Lib.hid ?_⟩
        · have := HE.out
          simp only [le] at this
          simpa using this
        · refine S.out.step ?_ hob
          have := G.out.size; have := q3.size; omega

/-! ### Is there a hole -/
theorem nh_l0 (l : List Int) (hl : l.length ≤ 1073741824) : ∀ (d i run : Nat), i + d = l.length → run ≤ i → ∃ r1 r2, PnextHole.parcel_nextHole.l0 (d + 1) l (run : Int) (i : Int) = some (r1, r2) ∧ (r1 == (l.length : Int)) = !scan16 run (l.drop i) := by
  intro d
  induction d with
  | zero =>
    intro i run hi hr
    have hd : l.drop i = [] := List.drop_eq_nil_of_le (by omega)
    rw [hd]
    simp only [PnextHole.parcel_nextHole.l0]
    rw [if_neg (by omega)]
    by_cases h16 : 16 ≤ run
    · rw [if_pos (by omega)]
      refine ⟨_, _, rfl, ?_⟩
      rw [wr64 ⟨by omega, by omega⟩]
      have h1 : ((l.length : Int) - (run : Int) == (l.length : Int)) = false := by simp; omega
      rw [h1]; simp [scan16, h16]
    · rw [if_neg (by omega)]
      refine ⟨_, _, rfl, ?_⟩
      simp [scan16]; omega
  | succ d ih =>
    intro i run hi hr
    have hlt : i < l.length := by omega
    have hd : l.drop i = l[i] :: l.drop (i + 1) := List.drop_eq_getElem_cons hlt
    have hrd : rd l (i : Int) = l[i] := by unfold rd; rw [Int.toNat_natCast]; simp [List.getD, hlt]
    have e3 : wrap64 ((i : Int) + 1) = ((i + 1 : Nat) : Int) := by rw [wr64 ⟨by omega, by omega⟩]; omega
    have e4 : wrap64 ((run : Int) + 1) = ((run + 1 : Nat) : Int) := by rw [wr64 ⟨by omega, by omega⟩]; omega
    obtain ⟨D, hD⟩ : ∃ D, d + 1 = D := ⟨_, rfl⟩
    rw [hD]
    simp only [PnextHole.parcel_nextHole.l0]
    rw [if_pos (by omega), if_pos (by omega), hrd, e3, e4, hd, ← hD]
    by_cases h0 : l[i] = 0
    · rw [if_pos h0]
      obtain ⟨r1, r2, h1, h2⟩ := ih (i + 1) (run + 1) (by omega) (by omega)
      exact ⟨r1, r2, h1, by rw [h2]; simp only [scan16, if_pos h0]⟩
    · rw [if_neg h0]
      by_cases h16 : 16 ≤ run
      · rw [if_pos (by omega)]
        refine ⟨_, _, rfl, ?_⟩
        rw [wr64 ⟨by omega, by omega⟩]
        have h1 : ((i : Int) - (run : Int) == (l.length : Int)) = false := by simp; omega
        rw [h1]; simp [scan16, h0, h16]
      · rw [if_neg (by omega)]
        obtain ⟨r1, r2, h1, h2⟩ := ih (i + 1) 0 (by omega) (by omega)
        exact ⟨r1, r2, h1, by rw [h2]; simp [scan16, h0, h16]⟩
theorem nextHole_any (A : Option Addr) (c : Nat) (L : List Int) (hc : L.length ≤ c) (hL : L.length ≤ 1073741824) (w : World) (hw : Ok w) (hA : BytesAt w A L) :
    Calls Tryd.prog 79 #[.slice A L.length c, .int .i64 0] w fun e w' => ∃ r1 r2, e = .returned (.tuple #[.int .i64 r1, .int .i64 r2]) ∧ (r1 == (L.length : Int)) = no16 L ∧ Fr w w' := by
  obtain ⟨r1, r2, h1, h2⟩ := nh_l0 L hL L.length 0 0 (by omega) (by omega)
  rw [List.drop_zero, scan16_no] at h2
  exact (PnextHole.parcel_nextHole.calls _ A c L 0 r1 r2 w (hA.toC (by omega)) hc h1).mono fun e w' ⟨he, hd⟩ => ⟨r1, r2, he, by rw [h2]; simp, Fr.of hw hd.below⟩
end Go.Proofs.YtlnaeppbhjmocaaDoor
set_option linter.unusedSimpArgs false
set_option linter.unusedVariables false
namespace Go.Proofs.YtlnaeppbhjmocaaDoor
open Go.RowKit Go.Proofs Go.Proofs.YtlnaeppbhjmocaaDoorW.PrintWords Go.Proofs.YtlnaeppbhjmocaaDoorW.PrintLast Go.Proofs.YtlnaeppbhjmocaaDoorW.PrintMore

/-- what the reader gives up with -/
def gaveUp (c : Int) : Ending := .panicked [{ v := .iface 63 (.agg #[.int .i64 c]), recovered := false }]
theorem must_yes (p : Value) (w : World) : Calls Tryd.prog 69 #[p, .bool true] w fun e w' => e = .returned (.tuple #[]) ∧ w' = w := by
  go_enter Tryd.func69, Tryd.ntmps69
  go_wp2
  go_end0
  exact ⟨rfl, rfl⟩
theorem must_no (p : Value) (w : World) : Calls Tryd.prog 69 #[p, .bool false] w fun e w' => e = gaveUp 191 ∧ w' = w := by
  go_enter Tryd.func69, Tryd.ntmps69
  go_wp2
  exact ⟨rfl, rfl, rfl⟩
/-- must, at any Boolean: the fact wanted where it gives up -/
theorem must_or (X : Int → Prop) (p : Value) (b : Bool) (w : World) (hX : b = false → X 191) : Calls Tryd.prog 69 #[p, .bool b] w fun e w' => w' = w ∧ ((∃ c, X c ∧ e = gaveUp c) ∨ (b = true ∧ e = .returned (.tuple #[]))) := by
  cases b with
  | true => exact (must_yes p w).mono fun e w' ⟨h1, h2⟩ => ⟨h2, .inr ⟨rfl, h1⟩⟩
  | false => exact (must_no p w).mono fun e w' ⟨h1, h2⟩ => ⟨h2, .inl ⟨191, hX rfl, h1⟩⟩
def PB (w : World) (g : Nat) (A : Option Addr) (c : Nat) (L : List Int) (i : Nat) : Prop := w.heap[g]? = some (.cells #[.slice A L.length c, .int .i64 i] 67 (0, 0))
theorem PB.fr {w w' : World} {g : Nat} {A : Option Addr} {c : Nat} {L : List Int} {i : Nat} (h : PB w g A c L i) (q : Fr w w') : PB w' g A c L i := q.heap h
theorem PB.grown {w w' : World} {g : Nat} {A : Option Addr} {c : Nat} {L : List Int} {i : Nat} {r : Option Nat} (h : PB w g A c L i) (q : w.grownBy w' r) (hne : some g ≠ r) : PB w' g A c L i := grown_blk' q h hne
set_option maxHeartbeats 3200000 in
set_option maxRecDepth 100000 in
theorem takeP_yes (g gb ob c : Nat) (L : List Int) (i n : Nat) (w : World) (hw : Ok w) (H : PB w g (some ⟨gb, ob, none⟩) c L i) (hi : i + n ≤ L.length) (hc : L.length ≤ c) (hL : L.length ≤ 1099511627776) (hg : 4 ≤ g) :
    Calls Tryd.prog 37 #[.pointer (some ⟨g, 0, none⟩), .int .i64 n] w fun e w' => ∃ o' c', e = .returned (.slice (some ⟨gb, o', none⟩) n c') ∧ n ≤ c' ∧ (n = 0 ∨ o' = ob + i) ∧ w.grownBy w' (some g) ∧ PB w' g (some ⟨gb, ob, none⟩) c L (i + n) := by
  unfold PB at *
  have f := Fr.refl hw
  obtain ⟨c0, c1⟩ := blk2 H
  have w1 : IntKind.i64.wrap ((L.length : Int) - (i : Int)) = (L.length : Int) - (i : Int) := IntWalk.i64_in _ ⟨by omega, by omega⟩
  have d1 : decide (((L.length : Int) - (i : Int)) < (n : Int)) = false := decide_eq_false (by omega)
  go_enter Tryd.func37, Tryd.ntmps37
  go_wp2
  have r_c0 := cell_regrown c0
  have r_c1 := cell_regrown c1
  refine wp_region_quiet_below (by kernel_rfl) (by kernel_rfl) ?_
  repeat (go_big_quiet_step (fail))
  refine wpQuiet_nil ?_
  intro wq hwq
  have q := Fr.regrown f.ok hwq
  clear hwq r_c0 r_c1
  replace c0 := q.cell c0
  replace c1 := q.cell c1
  replace H := q.heap H
  replace f := f.trans q
  clear q
  clear w1 d1
  have w2 : IntKind.i64.wrap ((i : Int) + (n : Int)) = (i : Int) + (n : Int) := IntWalk.i64_in _ ⟨by omega, by omega⟩
  have w3 : IntKind.i64.wrap ((i : Int) + (n : Int) - (n : Int)) = (i : Int) := by rw [IntWalk.i64_in _ ⟨by omega, by omega⟩]; omega
  have z1 := unfroz H 1
  obtain ⟨wb, hwb, HB, gr⟩ := set_grown H 1 (.int .i64 ((i : Int) + (n : Int)))
  simp only [List.setIfInBounds_toArray, List.set_cons_zero, List.set_cons_succ] at HB
  obtain ⟨e0, e1⟩ := blk2 HB
  have h1 : (i : Int) ≤ (i : Int) + (n : Int) := by omega
  have h2 : (i : Int) + (n : Int) ≤ (c : Int) := by omega
  have h3 : (0 : Int) ≤ (i : Int) := by omega
  have gr2 := grown_trans (fr_grown f (some g)) gr
  have f2 := Fr.refl (hw.grown hg gr2)
  go_wp2
  clear w2 z1 hwb c0 c1
  have r_e0 := cell_regrown e0
  have r_e1 := cell_regrown e1
  refine wp_region_quiet_below (by kernel_rfl) (by kernel_rfl) ?_
  repeat (go_big_quiet_step (fail))
  refine wpQuiet_nil ?_
  intro wq hwq
  have q := Fr.regrown f2.ok hwq
  clear hwq r_e0 r_e1
  replace e0 := q.cell e0
  replace e1 := q.cell e1
  replace HB := q.heap HB
  replace f2 := f2.trans q
  clear q
  have HE := Lib.hid (And.intro (grown_trans gr2 (fr_grown f2 (some g))) HB)
  clear gr gr2 f f2 HB
  by_cases hci : c = i
  · have hci2 : (c : Int) = (i : Int) := by omega
    go_wp2
    all_goals (go_ret; exact ⟨_, _, rfl, by omega, .inl (by omega), HE.out.1, (by have := HE.out.2; rw [hci] at this; first | exact this | (rw [Int.natCast_add]; exact this))⟩)
  · have hci2 : ¬ (c : Int) = (i : Int) := by omega
    go_wp2
    go_ret
    exact ⟨_, _, rfl, by omega, .inr rfl, HE.out.1, HE.out.2⟩
set_option maxHeartbeats 3200000 in
set_option maxRecDepth 100000 in
theorem takeP_no (g : Nat) (A : Option Addr) (c : Nat) (L : List Int) (i n : Nat) (w : World) (hw : Ok w) (H : PB w g A c L i) (hi : i ≤ L.length) (hno : L.length < i + n) (hn : n ≤ 1099511627776) (hL : L.length ≤ 1099511627776) :
    Calls Tryd.prog 37 #[.pointer (some ⟨g, 0, none⟩), .int .i64 n] w fun e w' => e = gaveUp 190 ∧ Fr w w' := by
  unfold PB at *
  have f := Fr.refl hw
  obtain ⟨c0, c1⟩ := blk2 H
  have w1 : IntKind.i64.wrap ((L.length : Int) - (i : Int)) = (L.length : Int) - (i : Int) := IntWalk.i64_in _ ⟨by omega, by omega⟩
  have d1 : decide (((L.length : Int) - (i : Int)) < (n : Int)) = true := decide_eq_true (by omega)
  go_enter Tryd.func37, Tryd.ntmps37
  go_wp2
  have r_c0 := cell_regrown c0
  have r_c1 := cell_regrown c1
  refine wp_region_quiet_below (by kernel_rfl) (by kernel_rfl) ?_
  repeat (go_big_quiet_step (fail))
  refine wpQuiet_nil ?_
  intro wq hwq
  have q := Fr.regrown f.ok hwq
  clear hwq r_c0 r_c1
  replace c0 := q.cell c0
  replace c1 := q.cell c1
  replace f := f.trans q
  clear q
  go_wp2
  exact ⟨rfl, rfl, f⟩
/-- the next n bytes, or it gives up -/
theorem take_or (X : Int → Prop) (g gb ob c : Nat) (L : List Int) (i n : Nat) (w : World) (hw : Ok w) (H : PB w g (some ⟨gb, ob, none⟩) c L i) (hi : i ≤ L.length) (hA : BytesAt w (some ⟨gb, ob, none⟩) L) (hgb : gb ≠ g) (hn : n ≤ 1099511627776) (hc : L.length ≤ c) (hL : L.length ≤ 1073741824) (hg : 4 ≤ g)
    (hX : ∀ e, (takeX L n (.ok i)).2 = .error e → X e) :
    Calls Tryd.prog 37 #[.pointer (some ⟨g, 0, none⟩), .int .i64 n] w fun e w' => w.grownBy w' (some g) ∧ ((∃ c, X c ∧ e = gaveUp c) ∨ ∃ bs o' d, takeX L n (.ok i) = (bs, .ok (i + n)) ∧ e = .returned (.slice (some ⟨gb, o', none⟩) bs.length d) ∧ bs.length ≤ d ∧ bs.length = n ∧ BytesAt w' (some ⟨gb, o', none⟩) bs ∧ PB w' g (some ⟨gb, ob, none⟩) c L (i + n) ∧ i + n ≤ L.length) := by
  by_cases hle : i + n ≤ L.length
  · have hr : takeX L n (.ok i) = ((L.drop i).take n, .ok (i + n)) := by simp only [takeX, if_pos hle]
    have hl : ((L.drop i).take n).length = n := by rw [List.length_take, List.length_drop]; omega
    refine (takeP_yes g gb ob c L i n w hw H hle hc (by omega) hg).mono ?_
    rintro e w' ⟨o', d, rfl, hd, ho', gr, HR⟩
    refine ⟨gr, .inr ⟨_, o', d, hr, by rw [hl], by rw [hl]; exact hd, hl, ?_, HR, hle⟩⟩
    have hA' := hA.grown gr (fun a e => by injection e with e; subst e; intro e; injection e with e; exact hgb e)
    rcases ho' with h0 | h0
    · subst h0; left; simp
    · subst h0; exact hA'.sub i n
  · refine (takeP_no g _ c L i n w hw H hi (by omega) hn (by omega)).mono ?_
    rintro e w' ⟨rfl, f⟩
    exact ⟨fr_grown f _, .inl ⟨190, hX _ (by simp only [takeX, if_neg hle]), rfl⟩⟩

theorem or_step {M : List Int} (hM : bytesOk M) {i : Nat} (hi : i < M.length) (hs : M.length ≤ 8) :
    Go.bits .or .u64 (leV (M.take i)) (IntKind.u64.wrap (M.getD i 0 * 2 ^ (8 * i))) = leV (M.take (i + 1)) := by
  have hlen : (M.take i).length = i := by rw [List.length_take]; omega
  have hb := hM _ (List.getElem_mem hi)
  have hg : M.getD i 0 = M[i] := by simp [List.getD, hi]
  have hsn : M.take (i + 1) = M.take i ++ [M[i]] := List.take_succ_eq_append_getElem hi
  have hx0 := leV_nonneg (hM.take i)
  have hx1 := leV_lt (hM.take i)
  rw [hlen] at hx1
  rw [hg, hsn, leV_snoc, hlen]
  obtain ⟨x, hx⟩ : ∃ x : Nat, leV (M.take i) = (x : Int) := ⟨_, (Int.toNat_of_nonneg hx0).symm⟩
  obtain ⟨b, hbn⟩ : ∃ b : Nat, M[i] = (b : Int) := ⟨_, (Int.toNat_of_nonneg hb.1).symm⟩
  rw [hx] at hx0 hx1 ⊢
  rw [hbn] at hb ⊢
  have hb255 : b ≤ 255 := by omega
  have hpow : (256 : Int) ^ i = ((2 ^ (8 * i) : Nat) : Int) := by
    rw [Nat.pow_mul]; simp
  have hxl : x < 2 ^ (8 * i) := by
    rw [hpow] at hx1; exact_mod_cast hx1
  have hp56 : 2 ^ (8 * i) ≤ 2 ^ 56 := Nat.pow_le_pow_right (by decide) (by omega)
  have hmul : b * 2 ^ (8 * i) ≤ 255 * 2 ^ 56 := Nat.mul_le_mul hb255 hp56
  have hsh : IntKind.u64.wrap ((b : Int) * 2 ^ (8 * i)) = ((b * 2 ^ (8 * i) : Nat) : Int) := by
    have : (b : Int) * 2 ^ (8 * i) = ((b * 2 ^ (8 * i) : Nat) : Int) := by simp
    rw [this]
    exact u64_in ⟨by omega, by omega⟩
  rw [hsh, bits_or_u64_nat _ _ (by omega) (by omega), hpow]
  have hor : x ||| b * 2 ^ (8 * i) = x + b * 2 ^ (8 * i) := by
    rw [Nat.or_comm, Nat.mul_comm, ← Nat.two_pow_add_eq_or_of_lt hxl, Nat.add_comm]
  rw [hor]
  simp

set_option maxHeartbeats 6400000 in
set_option maxRecDepth 100000 in
/-- a number, or it gives up -/
theorem num_or (X : Int → Prop) (g gb ob c : Nat) (L : List Int) (i n : Nat) (low high : Int) (w : World) (hw : Ok w) (H : PB w g (some ⟨gb, ob, none⟩) c L i) (hi : i ≤ L.length) (hA : BytesAt w (some ⟨gb, ob, none⟩) L) (hgb : gb ≠ g) (hb : bytesOk L) (hn : 1 ≤ n ∧ n ≤ 8) (hc : L.length ≤ c) (hL : L.length ≤ 1073741824) (hg : 4 ≤ g)
    (hX : ∀ e, (numX L n low high (.ok i)).2 = .error e → X e) :
    Calls Tryd.prog 56 #[.pointer (some ⟨g, 0, none⟩), .int .i64 n, .int .u64 low, .int .u64 high] w fun e w' => w.grownBy w' (some g) ∧ ((∃ c, X c ∧ e = gaveUp c) ∨ ∃ v j, numX L n low high (.ok i) = (v, .ok j) ∧ e = .returned (.int .u64 v) ∧ PB w' g (some ⟨gb, ob, none⟩) c L j ∧ j ≤ L.length ∧ low ≤ v ∧ v ≤ high ∧ 0 ≤ v) := by
  have hT := take_or X g gb ob c L i n w hw H hi hA hgb (by omega) hc hL hg (fun e h => hX e (by unfold numX; split <;> rename_i h2 <;> rw [h2] at h <;> first | exact h | cases h))
  have HT := Lib.hid hT
  have HX := Lib.hid hX
  clear hT hX hA H
  go_enter Tryd.func56, Tryd.ntmps56
  go_wp2_with (go_at_call 37; refine HT.out.mono ?_; rintro e wx ⟨gr, ⟨cc, hcc, he⟩ | ⟨bs, o', d, et, rfl, hd, hbn, hB, HR, hle⟩⟩ <;> try (unfold gaveUp at he; subst he))
  · exact ⟨rfl, gr, .inl ⟨cc, hcc, rfl⟩⟩
  · have hbk : bytesOk bs := by have := (takeX_ok hb n (.ok i)).1; rw [et] at this; exact this
    subst hbn
    have hnx : numX L bs.length low high (.ok i) = if low ≤ leV bs ∧ leV bs ≤ high then (leV bs, .ok (i + bs.length)) else (0, .error 191) := by unfold numX; rw [et]
    have HNX := Lib.hid hnx
    have HC : Hid (∀ j (h : j < bs.length), wx.cell? ⟨gb, o' + j, none⟩ = some (.int .u8 (bs.getD j 0))) := Lib.hid (fun j hj => by
      rcases hB with h | ⟨g', o2, e, _, h⟩
      · rw [h] at hj; simp at hj
      · injection e with e; injection e with e1 e2; subst e1 e2
        rw [show bs.getD j 0 = bs[j] by simp [List.getD, hj]]; exact h j _ (List.getElem?_eq_getElem hj))
    have HS := Lib.hid (fun j h => or_step hbk (i := j) h (by omega))
    have HBK := Lib.hid hbk
    have HV := leV_u64 hbk (by omega)
    have HF := Lib.hid (And.intro gr (And.intro HR hle))
    clear et gr HR hnx hB hbk
    go_loop [9, 16] (fun v9 v16 => ∃ k : Nat, k ≤ bs.length ∧ v9 = .int .u64 (leV (bs.take k)) ∧ v16 = .int .i64 k) (fun _ v16 => bs.length - (intOf v16).toNat)
    case atStart => exact ⟨0, Nat.zero_le _, rfl, rfl⟩
    case round =>
      obtain ⟨k, hk, rfl, rfl⟩ := hrel
      by_cases hlt : k < bs.length
      · have hcell := HC.out k hlt
        have hst := HS.out k hlt
        have hgd := getD_byte HBK.out k
        obtain ⟨b, hbb⟩ : ∃ b, bs.getD k 0 = b := ⟨_, rfl⟩
        rw [hbb] at hcell hst hgd
        have wb : IntKind.u64.wrap b = b := u64_in ⟨by omega, by omega⟩
        have w8 : IntKind.i64.wrap (8 * (k : Int)) = 8 * (k : Int) := IntWalk.i64_in _ ⟨by omega, by omega⟩
        have d1 : decide ((k : Int) < (bs.length : Int)) = true := decide_eq_true (by omega)
        have d2 : (0 : Int) ≤ (k : Int) := by omega
        have d3 : (k : Int) < (bs.length : Int) := by omega
        clear hgd
        go_wp2
        go_round
        case rel => exact ⟨k + 1, by omega, rfl, by go_num⟩
        case measure => simp [intOf]; omega
      · obtain rfl : k = bs.length := by omega
        have d0 : decide ((bs.length : Int) < (bs.length : Int)) = false := decide_eq_false (by omega)
        rw [List.take_length]
        by_cases hlow : low ≤ leV bs
        · have d5 : decide (low ≤ leV bs) = true := decide_eq_true hlow
          by_cases hhigh : leV bs ≤ high
          · have d6 : decide (leV bs ≤ high) = true := decide_eq_true hhigh
            have hn := HNX.out
            rw [if_pos ⟨hlow, hhigh⟩] at hn
            have HN := Lib.hid (And.intro hn (And.intro hlow hhigh))
            clear hn hlow hhigh hlt
            go_wp2_with (go_at_call 69; refine (must_yes _ _).mono ?_; rintro e wy ⟨rfl, rfl⟩)
            go_ret
            exact ⟨HF.out.1, .inr ⟨_, _, HN.out.1, rfl, HF.out.2.1, HF.out.2.2, HN.out.2.1, HN.out.2.2, HV.1⟩⟩
          · have d6 : decide (leV bs ≤ high) = false := decide_eq_false hhigh
            have hn := HNX.out
            rw [if_neg (fun h => hhigh h.2)] at hn
            have HN := Lib.hid hn
            clear hn hlow hhigh hlt
            go_wp2_with (go_at_call 69; refine (must_no _ _).mono ?_; rintro e wy ⟨he, rfl⟩; unfold gaveUp at he; subst he)
            exact ⟨rfl, HF.out.1, .inl ⟨191, HX.out _ (by rw [HN.out]), rfl⟩⟩
        · have d5 : decide (low ≤ leV bs) = false := decide_eq_false hlow
          have hn := HNX.out
          rw [if_neg (fun h => hlow h.1)] at hn
          have HN := Lib.hid hn
          clear hn hlow hlt
          go_wp2_with (go_at_call 69; refine (must_no _ _).mono ?_; rintro e wy ⟨he, rfl⟩; unfold gaveUp at he; subst he)
          exact ⟨rfl, HF.out.1, .inl ⟨191, HX.out _ (by rw [HN.out]), rfl⟩⟩
end Go.Proofs.YtlnaeppbhjmocaaDoor
