/- From a row's premises to the walk's: slices of bytes as arguments; the table of the check sum; how many blocks there are at least. No conditions. -/
import Derived.Test.YtlnaeppbhjmocaaDoorR4
import Derived.Test.YtlnaeppbhjmocaaDoorPSealedx1
import Derived.Laws.BitsLemmas
import Derived.Deep.CutBlock
import Derived.Test.YtlnaeppbhjmocaaDoorCards
import Derived.Test.YtlnaeppbhjmocaaDoorTie
import Derived.ProofKit
import Derived.WideShapes
import Derived.Deep.DeepHandedRow
import Derived.Lib.LaidU8
import Derived.Lib.LaidTab
import Derived.OpenShut
import Derived.Deep.Slices
set_option linter.unusedSimpArgs false
set_option linter.unusedVariables false
namespace Go.Proofs.YtlnaeppbhjmocaaDoor
def crcBit (x : Nat) : Nat := if x % 2 = 1 then x / 2 ^^^ 3988292384 else x / 2
def crcTab : List Nat := [0, 498536548, 997073096, 651767980, 1994146192, 1802195444, 1303535960, 1342533948, 3988292384, 4027552580, 3604390888, 3412177804, 2607071920, 2262029012, 2685067896, 3183342108]
theorem xor_half (a b : Nat) : (a ^^^ b) / 2 = a / 2 ^^^ b / 2 := by
  have h := Nat.shiftRight_xor_distrib (a := a) (b := b) (i := 1)
  simpa [Nat.shiftRight_succ, Nat.shiftRight_zero] using h
theorem xor_odd (a b : Nat) : (a ^^^ b) % 2 = (a % 2 + b % 2) % 2 := by
  have h := Nat.xor_mod_two_eq_one (a := a) (b := b)
  rcases Nat.mod_two_eq_zero_or_one a with ha | ha <;> rcases Nat.mod_two_eq_zero_or_one b with hb | hb <;> rcases Nat.mod_two_eq_zero_or_one (a ^^^ b) with hc | hc <;> rw [ha, hb, hc] at h <;> rw [ha, hb, hc] <;> simp at h ⊢
theorem crc_bit_any (x : Nat) (c : Nat) : crcBit (x ^^^ c) = crcBit x ^^^ crcBit c := by
  unfold crcBit
  rw [xor_odd, xor_half]
  rcases Nat.mod_two_eq_zero_or_one x with ha | ha <;> rcases Nat.mod_two_eq_zero_or_one c with hb | hb <;> rw [ha, hb]
  · simp
  · simp [Nat.xor_assoc]
  · simp only [Nat.zero_mod, Nat.add_zero, Nat.one_mod, if_true, Nat.reduceMod, Nat.reduceEqDiff, if_false, reduceIte, Nat.zero_ne_one]
    rw [Nat.xor_assoc, Nat.xor_comm (c / 2), Nat.xor_assoc]
  · simp only [Nat.reduceAdd, Nat.reduceMod, reduceIte, Nat.zero_ne_one]
    rw [Nat.xor_assoc, ← Nat.xor_assoc 3988292384, Nat.xor_comm 3988292384, Nat.xor_assoc (c / 2), Nat.xor_self, Nat.xor_zero]
theorem crc_even (h : Nat) : crcBit (2 * h) = h := by
  unfold crcBit; rw [if_neg (by omega)]; omega
theorem split16 (x : Nat) : x = (16 * (x / 16)) ^^^ (x % 16) := by
  have h : x % 16 < 2 ^ 4 := by omega
  have h2 : 2 ^ 4 * (x / 16) + x % 16 = 2 ^ 4 * (x / 16) ||| x % 16 := Nat.two_pow_add_eq_or_of_lt h _
  have h3 : (16 * (x / 16)) ^^^ (x % 16) = 16 * (x / 16) ||| x % 16 := by
    apply Nat.eq_of_testBit_eq
    intro i
    rw [Nat.testBit_xor, Nat.testBit_or]
    by_cases hi : i < 4
    · have : (16 * (x / 16)).testBit i = false := by
        have := Nat.testBit_two_pow_mul (i := 4) (a := x / 16) (j := i)
        simp at this
        rw [this]; simp; omega
      rw [this]; simp
    · have : (x % 16).testBit i = false := Nat.testBit_lt_two_pow (Nat.lt_of_lt_of_le h (Nat.pow_le_pow_right (by decide) (by omega)))
      rw [this]; simp
  rw [h3]
  have : x = 16 * (x / 16) + x % 16 := by omega
  simp only [Nat.reducePow] at h2
  omega
theorem crc_four (x : Nat) : crcBit (crcBit (crcBit (crcBit x))) = x / 16 ^^^ crcTab.getD (x % 16) 0 := by
  have key : ∀ l : Nat, l < 16 → crcBit (crcBit (crcBit (crcBit l))) = crcTab.getD l 0 := by decide
  conv => lhs; rw [split16 x]
  rw [crc_bit_any, crc_bit_any, crc_bit_any, crc_bit_any, key (x % 16) (Nat.mod_lt _ (by decide))]
  congr 1
  rw [show 16 * (x / 16) = 2 * (8 * (x / 16)) by omega, crc_even, show 8 * (x / 16) = 2 * (4 * (x / 16)) by omega, crc_even, show 4 * (x / 16) = 2 * (2 * (x / 16)) by omega, crc_even, crc_even]
end Go.Proofs.YtlnaeppbhjmocaaDoor
set_option linter.unusedSimpArgs false
set_option linter.unusedVariables false
namespace Go.Proofs.YtlnaeppbhjmocaaDoor
open Go.RowKit Go.Proofs Go.Proofs.YtlnaeppbhjmocaaDoorW.PrintWords Go.Proofs.YtlnaeppbhjmocaaDoorW.PrintLast Go.Proofs.YtlnaeppbhjmocaaDoorW.PrintMore

def crcIt : Nat → Nat → Nat
  | 0, x => x
  | n + 1, x => crcIt n (crcBit x)
def crcByte (x : Nat) (b : Int) : Nat := crcIt 8 (x ^^^ b.toNat)
def crcReg : List Int → Nat → Nat
  | [], x => x
  | b :: r, x => crcReg r (crcByte x b)
/-- the check sum -/
def crcN (L : List Int) : Nat := crcReg L 4294967295 ^^^ 4294967295
def crcI (L : List Int) : Int := (crcN L : Int)
theorem crcBit_lt {x : Nat} (h : x < 4294967296) : crcBit x < 4294967296 := by
  unfold crcBit
  split
  · exact Nat.xor_lt_two_pow (n := 32) (by omega) (by decide)
  · omega
theorem crcIt_lt {n x : Nat} (h : x < 4294967296) : crcIt n x < 4294967296 := by
  induction n generalizing x with
  | zero => exact h
  | succ n ih => exact ih (crcBit_lt h)
theorem xor_byte_lt {x : Nat} {b : Int} (h : x < 4294967296) (hb : 0 ≤ b ∧ b ≤ 255) : x ^^^ b.toNat < 4294967296 := Nat.xor_lt_two_pow (n := 32) h (by omega)
theorem crcByte_lt {x : Nat} {b : Int} (h : x < 4294967296) (hb : 0 ≤ b ∧ b ≤ 255) : crcByte x b < 4294967296 := crcIt_lt (xor_byte_lt h hb)
theorem crcReg_lt {L : List Int} (hL : bytesOk L) : ∀ {x : Nat}, x < 4294967296 → crcReg L x < 4294967296 := by
  induction L with
  | nil => exact fun h => h
  | cons b r ih => exact fun h => ih (fun x hx => hL x (List.mem_cons_of_mem _ hx)) (crcByte_lt h (hL b List.mem_cons_self))
theorem crcN_lt {L : List Int} (hL : bytesOk L) : crcN L < 4294967296 := Nat.xor_lt_two_pow (n := 32) (crcReg_lt hL (by decide)) (by decide)
theorem crcI_rg {L : List Int} (hL : bytesOk L) : 0 ≤ crcI L ∧ crcI L ≤ 4294967295 := by have := crcN_lt hL; unfold crcI; omega
theorem xor32 (a b : Nat) (ha : a < 4294967296) (hb : b < 4294967296) : Go.bits .xor .u32 a b = ((a ^^^ b : Nat) : Int) := by
  have hp : (2 : Nat) ^ IntKind.u32.bits = 4294967296 := rfl
  have ha' : a % 2 ^ IntKind.u32.bits = a := Nat.mod_eq_of_lt ha
  have hb' : b % 2 ^ IntKind.u32.bits = b := Nat.mod_eq_of_lt hb
  simp only [Go.bits, BitVec.ofInt_natCast, BitVec.toNat_xor, BitVec.toNat_ofNat, ha', hb']
  have := Nat.xor_lt_two_pow (n := 32) ha hb
  rw [IntKind.wrap_u32]; omega
theorem and32 (a : Nat) (ha : a < 4294967296) : Go.bits .and .u32 (a : Int) 15 = ((a % 16 : Nat) : Int) := by
  have h := (bits_nat .u32 32 (by decide) (fun n h0 h1 => by rw [IntKind.wrap_u32]; omega) a 15 ha (by decide)).1
  have h2 : a &&& 15 = a % 16 := Nat.and_two_pow_sub_one_eq_mod a 4
  rw [h2] at h
  exact h
theorem sum_l1 (l : List Int) (p : Int) : ∀ (d i k x : Nat), i + d = 8 → x < 4294967296 → PSealed.shaleref01_Sum.l1 (k + d + 1) l (x : Int) p (i : Int) = PSealed.shaleref01_Sum.l0 k l (crcIt d x : Nat) (wrap64 (p + 1)) := by
  intro d
  induction d with
  | zero =>
    intro i k x hi hx
    simp only [PSealed.shaleref01_Sum.l1]
    rw [if_neg (by omega)]; rfl
  | succ d ih =>
    intro i k x hi hx
    have e1 : Int.tmod (x : Int) 2 = ((x % 2 : Nat) : Int) := by rw [Int.tmod_eq_emod_of_nonneg (by omega)]; omega
    have e2 : Int.tdiv (x : Int) 2 % 4294967296 = ((x / 2 : Nat) : Int) := by rw [Int.tdiv_eq_ediv_of_nonneg (by omega)]; omega
    have e3 : wrap64 ((i : Int) + 1) = ((i + 1 : Nat) : Int) := by rw [wr64 ⟨by omega, by omega⟩]; omega
    obtain ⟨K, hK⟩ : ∃ K, k + d + 1 = K := ⟨_, rfl⟩
    rw [show k + (d + 1) + 1 = K + 1 by omega]
    simp only [PSealed.shaleref01_Sum.l1]
    rw [if_pos (by omega), e1, e2, e3]
    by_cases h : x % 2 = 1
    · rw [if_pos (by omega), show (3988292384 : Int) = ((3988292384 : Nat) : Int) from rfl, xor32 _ _ (by omega) (by decide)]
      have hc : crcBit x = x / 2 ^^^ 3988292384 := by unfold crcBit; rw [if_pos h]
      rw [← hc, ← hK, ih (i + 1) k (crcBit x) (by omega) (crcBit_lt hx)]; rfl
    · rw [if_neg (by omega)]
      have hc : crcBit x = x / 2 := by unfold crcBit; rw [if_neg h]
      rw [← hc, ← hK, ih (i + 1) k (crcBit x) (by omega) (crcBit_lt hx)]; rfl
theorem sum_l0 (l : List Int) (hb : bytesOk l) (hl : l.length ≤ 1073741824) : ∀ (d i k x : Nat), i + d = l.length → x < 4294967296 → PSealed.shaleref01_Sum.l0 (k + 10 * d + 1) l (x : Int) (i : Int) = some ((crcReg (l.drop i) x ^^^ 4294967295 : Nat) : Int) := by
  intro d
  induction d with
  | zero =>
    intro i k x hi hx
    simp only [PSealed.shaleref01_Sum.l0]
    rw [if_neg (by omega), show (4294967295 : Int) = ((4294967295 : Nat) : Int) from rfl, xor32 _ _ hx (by decide), List.drop_eq_nil_of_le (by omega)]; rfl
  | succ d ih =>
    intro i k x hi hx
    have hlt : i < l.length := by omega
    have hbi := hb _ (List.getElem_mem hlt)
    have e1 : rd l (i : Int) % 4294967296 = ((l[i].toNat : Nat) : Int) := by
      have : rd l (i : Int) = l[i] := by unfold rd; rw [Int.toNat_natCast]; simp [List.getD, hlt]
      rw [this]; omega
    have e3 : wrap64 ((i : Int) + 1) = ((i + 1 : Nat) : Int) := by rw [wr64 ⟨by omega, by omega⟩]; omega
    rw [show k + 10 * (d + 1) + 1 = (k + 10 * d + 1 + 8 + 1) + 1 by omega]
    simp only [PSealed.shaleref01_Sum.l0]
    have hx2 := xor_byte_lt hx hbi
    rw [if_pos (by omega), if_pos (by omega), e1, xor32 _ _ hx (by omega), show (0 : Int) = ((0 : Nat) : Int) from rfl, sum_l1 l (i : Int) 8 0 _ _ (by omega) hx2, e3, ih (i + 1) k _ (by omega) (crcIt_lt hx2), List.drop_eq_getElem_cons hlt]
    rfl
theorem sum_f (l : List Int) (hb : bytesOk l) (hl : l.length ≤ 1073741824) (k : Nat) (hk : 10 * l.length + 1 ≤ k) : PSealed.shaleref01_Sum.f k l = some (crcI l) := by
  have h := sum_l0 l hb hl l.length 0 (k - (10 * l.length + 1)) 4294967295 (by omega) (by decide)
  unfold PSealed.shaleref01_Sum.f
  rw [show k = k - (10 * l.length + 1) + 10 * l.length + 1 by omega]
  simpa [crcI, crcN] using h
theorem sum01_any (A : Option Addr) (c : Nat) (L : List Int) (hb : bytesOk L) (hc : L.length ≤ c) (hL : L.length ≤ 1073741824) (w : World) (hw : Ok w) (hA : BytesAt w A L) :
    Calls Tryd.prog 30 #[.slice A L.length c] w fun e w' => e = .returned (.int .u32 (crcI L)) ∧ Fr w w' :=
  (PSealed.shaleref01_Sum.calls _ A c L _ w (hA.toC (by omega)) hc (sum_f L hb hL _ (Nat.le_refl _))).mono fun e w' ⟨he, hd⟩ => ⟨he, Fr.of hw hd.below⟩
theorem put_l0 (n : Nat) (hn : n ≤ 8) : ∀ (d i : Nat) (x : Int) (out : List Int), i + d = n → 0 ≤ x → x ≤ 18446744073709551615 → out.length = i → PSealed.shaleref18_put.l0 (d + 1) x n out (i : Int) = some (out ++ le x d) := by
  intro d
  induction d with
  | zero =>
    intro i x out hi h0 h1 ho
    simp only [PSealed.shaleref18_put.l0]
    rw [if_neg (by omega)]; simp [le]
  | succ d ih =>
    intro i x out hi h0 h1 ho
    have e1 : IntKind.u64.wrap (Int.tdiv x 256) = x / 256 := by rw [Int.tdiv_eq_ediv_of_nonneg h0]; exact u64_in ⟨by omega, by omega⟩
    have e3 : wrap64 ((i : Int) + 1) = ((i + 1 : Nat) : Int) := by rw [wr64 ⟨by omega, by omega⟩]; omega
    obtain ⟨D, hD⟩ : ∃ D, d + 1 = D := ⟨_, rfl⟩
    rw [hD]
    simp only [PSealed.shaleref18_put.l0]
    rw [if_pos (by omega), if_pos (by omega), e1, e3, ← hD, ih (i + 1) (x / 256) (out ++ [x % 256]) (by omega) (by omega) (by omega) (by simp [ho])]
    simp [le]
theorem put_f (x : Int) (h0 : 0 ≤ x) (h1 : x ≤ 18446744073709551615) (n : Nat) (hn : n ≤ 8) : PSealed.shaleref18_put.f (n + 1) x n = some (le x n) := by
  have := put_l0 n hn n 0 x [] (by omega) h0 h1 rfl
  simpa [PSealed.shaleref18_put.f] using this
theorem put18_any (x : Int) (h0 : 0 ≤ x) (h1 : x ≤ 18446744073709551615) (n : Nat) (hn : n ≤ 8) (w : World) (hw : Ok w) :
    Calls Tryd.prog 29 #[.int .u64 x, .int .i64 n] w fun e w' => ∃ v, e = .returned v ∧ OwnB w' w.heap.size v (le x n) ∧ Fr w w' :=
  (PSealed.shaleref18_put.calls _ x n _ w (put_f x h0 h1 n hn)).mono fun e w' ⟨v, he, hR, hb⟩ => ⟨v, he, OwnB.ofR hR, Fr.of hw hb⟩
theorem sealed_any (A : Option Addr) (c : Nat) (L : List Int) (hb : bytesOk L) (hc : L.length ≤ c) (hL : L.length ≤ 1073741824) (w : World) (hw : Ok w) (hA : BytesAt w A L) :
    Calls Tryd.prog 11 #[.slice A L.length c] w fun e w' => ∃ v, e = .returned v ∧ OwnB w' w.heap.size v (L ++ le (crcI L) 4) ∧ Fr w w' := by
  have hr := crcI_rg hb
  have hp := put_f (crcI L) hr.1 (by omega) 4 (by omega)
  have hpm : PSealed.shaleref18_put.f (10 * L.length + 10) (crcI L) 4 = some (le (crcI L) 4) := by
    have := put_f (crcI L) hr.1 (by omega) 4 (by omega)
    have mono : ∀ m, PSealed.shaleref18_put.f (5 + m) (crcI L) 4 = some (le (crcI L) 4) := by
      intro m
      induction m with
      | zero => exact this
      | succ m ih => exact PSealed.shaleref18_put.mono _ _ (5 + m) _ ih
    have h2 := mono (10 * L.length + 5)
    rwa [show 5 + (10 * L.length + 5) = 10 * L.length + 10 by omega] at h2
  have hf : PSealed.shaleref18_Sealed.f (10 * L.length + 10) L = some (L ++ le (crcI L) 4) := by
    unfold PSealed.shaleref18_Sealed.f
    simp only [Option.bind_some, List.nil_append, List.length_nil, Nat.zero_add]
    rw [if_pos (by omega)]
    rw [sum_f L hb hL _ (by omega)]
    simp only [Option.bind_some]
    rw [u64_in ⟨hr.1, by omega⟩, hpm]
    simp only [Option.bind_some]
    rw [if_pos (by rw [le_length]; omega)]
  exact (PSealed.shaleref18_Sealed.calls _ A c L _ w (hA.toC (by omega)) hc hf).mono fun e w' ⟨v, he, hR, hb⟩ => ⟨v, he, OwnB.ofR hR, Fr.of hw hb⟩

/-! ### The program's sum -/
theorem crc8_tab (x : Nat) : crcIt 8 x = (x / 16 ^^^ crcTab.getD (x % 16) 0) / 16 ^^^ crcTab.getD ((x / 16 ^^^ crcTab.getD (x % 16) 0) % 16) 0 := by
  have h1 := crc_four x
  have h2 := crc_four (x / 16 ^^^ crcTab.getD (x % 16) 0)
  show crcBit (crcBit (crcBit (crcBit (crcBit (crcBit (crcBit (crcBit x))))))) = _
  rw [h1, h2]
theorem tab_lt (i : Nat) : crcTab.getD i 0 < 4294967296 := by
  by_cases h : i < 16
  · have : ∀ i, i < 16 → crcTab.getD i 0 < 4294967296 := by decide
    exact this i h
  · rw [List.getD_eq_getElem?_getD, List.getElem?_eq_none (by simp [crcTab]; omega)]; decide
theorem fours_cell {w : World} (hw : Ok w) (i : Nat) (h : i < 16) : w.cell? ⟨0, i, none⟩ = some (.int .u32 (crcTab.getD i 0)) := by
  have hf := hw.fours
  simp only [World.var?, gFours, Option.bind_some] at hf
  split at hf
  · rename_i cs t fz heq
    injection hf with hf
    subst hf
    simp only [World.cell?, heq]
    show foursTab[i]? = some (.int .u32 (crcTab.getD i 0))
    rcases (by omega : i = 0 ∨ i = 1 ∨ i = 2 ∨ i = 3 ∨ i = 4 ∨ i = 5 ∨ i = 6 ∨ i = 7 ∨ i = 8 ∨ i = 9 ∨ i = 10 ∨ i = 11 ∨ i = 12 ∨ i = 13 ∨ i = 14 ∨ i = 15) with rfl | rfl | rfl | rfl | rfl | rfl | rfl | rfl | rfl | rfl | rfl | rfl | rfl | rfl | rfl | rfl <;> rfl
  · cases hf
set_option maxHeartbeats 3200000 in
set_option maxRecDepth 100000 in
theorem sum_any (A : Option Addr) (c : Nat) (L : List Int) (hb : bytesOk L) (hc : L.length ≤ c) (hL : L.length ≤ 1073741824) (w : World) (hw : Ok w) (hA : BytesAt w A L) :
    Calls Tryd.prog 40 #[.slice A L.length c] w fun e w' => e = .returned (.int .u32 (crcI L)) ∧ w' = w := by
  have HC : Hid (∀ j (h : j < L.length), ∃ a, A = some a ∧ w.cell? (a.add j) = some (.int .u8 (L.getD j 0))) := Lib.hid (fun j hj => by
    rcases hA with h | ⟨g', o', rfl, _, h⟩
    · rw [h] at hj; simp at hj
    · exact ⟨_, rfl, by rw [Lib.add_plain, show L.getD j 0 = L[j] by simp [List.getD, hj]]; exact h j _ (List.getElem?_eq_getElem hj)⟩)
  have HT := Lib.hid (fours_cell hw)
  have HBy := Lib.hid hb
  clear hA hb
  go_enter Tryd.func40, Tryd.ntmps40
  go_wp2_with fail
  go_loop [3, 8] (fun v3 v8 => ∃ k x : Nat, k ≤ L.length ∧ x < 4294967296 ∧ Hid (crcReg (L.drop k) x = crcReg L 4294967295) ∧ v3 = .int .u32 x ∧ v8 = .int .i64 k) (fun _ v8 => L.length - (intOf v8).toNat)
  case atStart => exact ⟨0, 4294967295, Nat.zero_le _, by decide, Lib.hid rfl, rfl, rfl⟩
  case round =>
    obtain ⟨k, x, hk, hx, HR, rfl, rfl⟩ := hrel
    by_cases hlt : k < L.length
    · obtain ⟨a, rfl, hcell⟩ := HC.out k hlt
      have hbk := getD_byte HBy.out k
      obtain ⟨b, hbb⟩ : ∃ b : Nat, L.getD k 0 = (b : Int) := ⟨_, (Int.toNat_of_nonneg hbk.1).symm⟩
      rw [hbb] at hcell hbk
      have d1 : decide ((k : Int) < (L.length : Int)) = true := decide_eq_true (by omega)
      have d2 : (0 : Int) ≤ (k : Int) := by omega
      have d3 : (k : Int) < (L.length : Int) := by omega
      obtain ⟨z, hz⟩ : ∃ z, x ^^^ b = z := ⟨_, rfl⟩
      have hzl : z < 4294967296 := by rw [← hz]; exact Nat.xor_lt_two_pow (n := 32) hx (by omega)
      have e1 := xor32 x b hx (by omega)
      rw [hz] at e1
      have e2 := and32 z hzl
      have e4 := HT.out (z % 16) (by omega)
      obtain ⟨t1, ht1⟩ : ∃ t, crcTab.getD (z % 16) 0 = t := ⟨_, rfl⟩
      have hl1 : t1 < 4294967296 := by rw [← ht1]; exact tab_lt _
      rw [ht1] at e4
      obtain ⟨y, hy⟩ : ∃ y, z / 16 ^^^ t1 = y := ⟨_, rfl⟩
      have hyl : y < 4294967296 := by rw [← hy]; exact Nat.xor_lt_two_pow (n := 32) (by omega) hl1
      have e5 := xor32 (z / 16) t1 (by omega) hl1
      rw [hy, Int.natCast_ediv] at e5
      have e6 := and32 y hyl
      have e7 := HT.out (y % 16) (by omega)
      obtain ⟨t2, ht2⟩ : ∃ t, crcTab.getD (y % 16) 0 = t := ⟨_, rfl⟩
      have hl2 : t2 < 4294967296 := by rw [← ht2]; exact tab_lt _
      rw [ht2] at e7
      obtain ⟨v, hv⟩ : ∃ v, y / 16 ^^^ t2 = v := ⟨_, rfl⟩
      have hvl : v < 4294967296 := by rw [← hv]; exact Nat.xor_lt_two_pow (n := 32) (by omega) hl2
      have e8 := xor32 (y / 16) t2 (by omega) hl2
      rw [hv, Int.natCast_ediv] at e8
      have hnew : crcByte x (b : Int) = v := by
        unfold crcByte
        rw [Int.toNat_natCast, hz, crc8_tab, ht1, hy, ht2, hv]
      have hdrop : L.drop k = (b : Int) :: L.drop (k + 1) := by rw [drop_getD hlt, hbb]
      have HN : Hid (crcReg (L.drop (k + 1)) v = crcReg L 4294967295) := Lib.hid (by rw [← HR.out, hdrop, ← hnew]; rfl)
      replace e5 : Go.bits .xor .u32 ((z : Int) / 16) (t1 : Int) = (y : Int) := e5
      replace e8 : Go.bits .xor .u32 ((y : Int) / 16) (t2 : Int) = (v : Int) := e8
      clear hnew hdrop hz ht1 hy ht2 hv HR hbb
      go_wp2
      go_round
      case rel => exact ⟨k + 1, v, by omega, hvl, HN, rfl, by go_num⟩
      case measure => simp [intOf]; omega
    · obtain rfl : k = L.length := by omega
      have hr : crcReg L 4294967295 = x := by rw [← HR.out, List.drop_length]; rfl
      have HRR := Lib.hid hr
      have d1 : (L.length : Int) ≤ (L.length : Int) := by omega
      clear hr HR hlt
      have hres : Go.bits .xor .u32 IntKind.u32.max (x : Int) = crcI L := by
        have h := xor32 4294967295 x (by decide) hx
        unfold crcI crcN
        rw [HRR.out, Nat.xor_comm]
        exact h
      have HRES := Lib.hid hres
      clear hres
      go_wp2
      all_goals first
        | (exact absurd (by assumption : IntKind.u32.signed = true) (by decide))
        | (go_ret; exact ⟨by rw [← HRES.out]; rfl, rfl⟩)
end Go.Proofs.YtlnaeppbhjmocaaDoor
set_option linter.unusedSimpArgs false
set_option linter.unusedVariables false
namespace Go.Proofs.YtlnaeppbhjmocaaDoor.Reg
open Go Go.RowKit Go.Sort
theorem wpMainT_enter {P : Program} {ops : Array Oper} {S : World → Prop} {D : Nat} {Q : Exit → Act → World → Prop} {k : Nat} {rest : List Nat} {o : Oper} {fn : FuncId} {args : Array Value} {a : Act} {w : World} {R : Ending → World → Prop} (ho : ops[k]? = some o) (hw : Region.wanted o (yielded ops a.tmps) = true)
    (hr : (execOp a.eval o).run P w = .ok (.enter fn args) w) (hc : Calls P fn args w R) (h : ∀ e w', R e w' → ∃ v, e = .returned v ∧ (k = D ∨ S w') ∧ wpMainT P ops Q S D rest (a.put o.dst v) w') : wpMainT P ops Q S D (k :: rest) a w := by
  unfold wpMainT wpOp
  simp only [ho, hw, if_true]
  left
  unfold Oper.wp
  rw [hr, Oper.upon_enter]
  refine hc.mono fun e w' hR => ?_
  obtain ⟨v, rfl, hS, h'⟩ := h e w' hR
  exact ⟨hS, h'⟩
end Go.Proofs.YtlnaeppbhjmocaaDoor.Reg
namespace Go.Proofs.YtlnaeppbhjmocaaDoor
open Go.RowKit Go.Proofs Go.Proofs.YtlnaeppbhjmocaaDoorW.PrintWords Go.Proofs.YtlnaeppbhjmocaaDoorW.PrintMore

/-- a tree in memory, its lists the call's own -/
def TreeAt (w : World) (B : Nat) (v : Value) (lfs : List Lf) : Prop := ∃ a tv c, v = .slice a tv.length c ∧ tv.map Prod.fst = lfs ∧ w.ownsRow B 45 6 (.slice a tv.length c) tv.length (lflat tv) ∧ LO w B tv
theorem TreeAt.nil (w : World) (B : Nat) : TreeAt w B (.slice none 0 0) [] := ⟨none, [], 0, rfl, rfl, ⟨rfl, .inl ⟨rfl, rfl⟩⟩, LO.nil w B⟩
theorem strOfNums_inj {a b : List Int} (ha : bytesOk a) (hb : bytesOk b) (h : strOfNums a = strOfNums b) : a = b := by
  have h1 : (a.map fun x => UInt8.ofNat x.toNat) = (b.map fun x => UInt8.ofNat x.toNat) := by
    have := congrArg (fun s : ByteArray => s.data.toList) h
    simpa [strOfNums] using this
  have key : ∀ (a b : List Int), bytesOk a → bytesOk b → (a.map fun x => UInt8.ofNat x.toNat) = (b.map fun x => UInt8.ofNat x.toNat) → a = b := by
    intro a
    induction a with
    | nil => intro b _ _ h; cases b with
      | nil => rfl
      | cons _ _ => simp at h
    | cons x r ih =>
      intro b ha hb h
      cases b with
      | nil => simp at h
      | cons y s =>
        simp only [List.map_cons, List.cons.injEq] at h
        have hx := ha x List.mem_cons_self
        have hy := hb y List.mem_cons_self
        have e := congrArg UInt8.toNat h.1
        simp only [UInt8.toNat_ofNat'] at e
        have : x = y := by omega
        rw [this, ih s (fun z hz => ha z (List.mem_cons_of_mem _ hz)) (fun z hz => hb z (List.mem_cons_of_mem _ hz)) h.2]
  exact key a b ha hb h1
theorem own_block {w : World} {g B n size : Nat} {cs : Array Value} {t : TypeId} (H : w.heap[g]? = some (.cells cs t (0, 0))) (hB : B ≤ g) (hn : n ≤ maxLen) (hs : cs.size = n * size) : w.ownsRow B t size (.slice (some ⟨g, 0, none⟩) n n) n cs.toList :=
  ⟨hs, .inr ⟨g, n, cs, rfl, hB, H, Nat.le_refl _, hn, hs, by rw [← hs]; exact List.take_length⟩⟩
theorem headB_iff {L : List Int} (h : 5 ≤ L.length) : headB L = (L.getD 0 0 == 80 && L.getD 1 0 == 82 && L.getD 2 0 == 67 && L.getD 3 0 == 76 && L.getD 4 0 == 1) := by
  match L, h with
  | a :: b :: c :: d :: e :: r, _ => simp [headB, Bool.and_assoc]
theorem headB_len {L : List Int} (h : L.length < 5) : headB L = false := by unfold headB; rw [decide_eq_false (by omega)]; rfl

set_option maxHeartbeats 6400000 in
set_option maxRecDepth 100000 in
theorem read_no (A : Option Addr) (c : Nat) (L : List Int) (w : World) (hw : Ok w) (hA : BytesAt w A L) (hh : headB L = false) :
    Calls Tryd.prog 13 #[.slice A L.length c] w fun e w' => e = .returned (.tuple #[.slice none 0 0, .int .i64 190]) ∧ w' = w := by
  by_cases h5 : L.length < 5
  · have d1 : decide ((L.length : Int) < 5) = true := decide_eq_true (by omega)
    clear hh
    go_enter Tryd.func13, Tryd.ntmps13
    go_wp2
    go_ret2
    exact ⟨rfl, rfl⟩
  · have d1 : decide ((L.length : Int) < 5) = false := decide_eq_false (by omega)
    rw [headB_iff (by omega)] at hh
    obtain ⟨gb, ob, rfl⟩ : ∃ gb ob, A = some ⟨gb, ob, none⟩ := by
      rcases hA with h | ⟨g, o, e, _⟩
      · rw [h] at h5; simp at h5
      · exact ⟨g, o, e⟩
    have k0 := bytes_cell hA 0 (by omega)
    have k1 := bytes_cell hA 1 (by omega)
    have k2 := bytes_cell hA 2 (by omega)
    have k3 := bytes_cell hA 3 (by omega)
    have k4 := bytes_cell hA 4 (by omega)
    obtain ⟨b0, hb0⟩ : ∃ b, L.getD 0 0 = b := ⟨_, rfl⟩
    obtain ⟨b1, hb1⟩ : ∃ b, L.getD 1 0 = b := ⟨_, rfl⟩
    obtain ⟨b2, hb2⟩ : ∃ b, L.getD 2 0 = b := ⟨_, rfl⟩
    obtain ⟨b3, hb3⟩ : ∃ b, L.getD 3 0 = b := ⟨_, rfl⟩
    obtain ⟨b4, hb4⟩ : ∃ b, L.getD 4 0 = b := ⟨_, rfl⟩
    rw [hb0] at k0 hh
    rw [hb1] at k1 hh
    rw [hb2] at k2 hh
    rw [hb3] at k3 hh
    rw [hb4] at k4 hh
    have l5 : (5 : Int) ≤ L.length := by omega
    have hl5 : 5 ≤ L.length := by omega
    clear hb0 hb1 hb2 hb3 hb4 h5
    have k0' : w.cell? ⟨gb, ob, none⟩ = some (.int .u8 b0) := k0
    by_cases e0 : b0 = 80
    · have q0 : (b0 != 80) = false := by simpa using e0
      by_cases e1 : b1 = 82
      · have q1 : (b1 != 82) = false := by simpa using e1
        by_cases e2 : b2 = 67
        · have q2 : (b2 != 67) = false := by simpa using e2
          by_cases e3 : b3 = 76
          · have q3 : (b3 != 76) = false := by simpa using e3
            by_cases e4 : b4 = 1
            · simp [e0, e1, e2, e3, e4] at hh
            · have q4 : (b4 != 1) = true := by simpa using e4
              clear hh e0 e1 e2 e3 e4
              go_enter Tryd.func13, Tryd.ntmps13
              go_wp2
              go_ret2
              exact ⟨rfl, rfl⟩
          · have q3 : (b3 != 76) = true := by simpa using e3
            clear hh e0 e1 e2 e3
            go_enter Tryd.func13, Tryd.ntmps13
            go_wp2
            go_ret2
            exact ⟨rfl, rfl⟩
        · have q2 : (b2 != 67) = true := by simpa using e2
          clear hh e0 e1 e2
          go_enter Tryd.func13, Tryd.ntmps13
          go_wp2
          go_ret2
          exact ⟨rfl, rfl⟩
      · have q1 : (b1 != 82) = true := by simpa using e1
        clear hh e0 e1
        go_enter Tryd.func13, Tryd.ntmps13
        go_wp2
        go_ret2
        exact ⟨rfl, rfl⟩
    · have q0 : (b0 != 80) = true := by simpa using e0
      clear hh e0
      go_enter Tryd.func13, Tryd.ntmps13
      go_wp2
      go_ret2
      exact ⟨rfl, rfl⟩

set_option maxHeartbeats 12800000 in
set_option maxRecDepth 100000 in
theorem read_yes (Q : Ending → World → Prop) (gb ob c : Nat) (L : List Int) (w : World) (hw : Ok w) (hA : BytesAt w (some ⟨gb, ob, none⟩) L) (hgb : gb < w.heap.size) (hb : bytesOk L) (hc : L.length ≤ c) (hL : L.length ≤ 1073741824) (hg : 4 ≤ w.heap.size) (hh : headB L = true)
    (HP : Hid (∀ v w', Fr w w' → TreeAt w' w.heap.size v (readX crcI L).1 → Q (.returned (.tuple #[v, .int .i64 (readX crcI L).2])) w')) :
    Calls Tryd.prog 13 #[.slice (some ⟨gb, ob, none⟩) L.length c] w Q := by
  have hl5 : 5 ≤ L.length := by
    by_cases h : L.length < 5
    · rw [headB_len h] at hh; cases hh
    · omega
  obtain ⟨⟨m, o1⟩, e1⟩ : ∃ p, numX L 2 0 4095 (.ok 5) = p := ⟨_, rfl⟩
  obtain ⟨⟨s, o2⟩, e2⟩ : ∃ p, numX L 8 0 18446744073709551615 o1 = p := ⟨_, rfl⟩
  obtain ⟨⟨T, ot⟩, e3⟩ : ∃ p, treeX gtB L false (L.length + 1) [rootLf m s] [] true o2 = p := ⟨_, rfl⟩
  have hm := numX_rg (L := L) (low := 0) (high := 4095) (.inl (by omega)) (by omega) 2 (.ok 5) hb
  rw [e1] at hm
  dsimp only at hm
  obtain ⟨X, hX⟩ : ∃ X, endX crcI L T ot = X := ⟨_, rfl⟩
  have hread : readX crcI L = X := by
    unfold readX treeR
    rw [if_pos hh]
    simp only [e1, e2, e3]
    exact hX
  rw [hread] at HP
  rw [headB_iff hl5] at hh
  simp only [Bool.and_eq_true, beq_iff_eq] at hh
  obtain ⟨⟨⟨⟨h0, h1⟩, h2⟩, h3⟩, h4⟩ := hh
  have k0 := bytes_cell hA 0 (by omega)
  have k1 := bytes_cell hA 1 (by omega)
  have k2 := bytes_cell hA 2 (by omega)
  have k3 := bytes_cell hA 3 (by omega)
  have k4 := bytes_cell hA 4 (by omega)
  rw [h0] at k0
  rw [h1] at k1
  rw [h2] at k2
  rw [h3] at k3
  rw [h4] at k4
  have k0' : w.cell? ⟨gb, ob, none⟩ = some (.int .u8 80) := k0
  have l5 : (5 : Int) ≤ L.length := by omega
  have d1 : decide ((L.length : Int) < 5) = false := decide_eq_false (by omega)
  obtain ⟨w1, g, hg1, hw1, f, hz1, H1⟩ := boxedN hw #[.slice (some ⟨gb, ob, none⟩) L.length c, .int .i64 5, .int .i64 0, .int .i64 0, .bool false] 58
  obtain ⟨w2, g2, hg2, hw2, f2, hz2, H2⟩ := boxedN f.ok #[.string ⟨#[47]⟩, .int .i64 2, .int .i64 0, .int .u64 0, .slice none 0 0, .string ⟨#[]⟩] 45
  have HR : RX w2 g (some ⟨gb, ob, none⟩) c L (.ok 5) 0 false := ⟨5, hl5, fun j e => (by injection e), fun e h => (by cases h), f2.heap H1⟩
  replace f := f.trans f2
  have h12 : g2 ≠ g := by omega
  have l1 : w.heap.size ≤ g := by omega
  have l2 : w.heap.size ≤ g2 := by have := f2.size; omega
  have hgg : 4 ≤ g := by omega
  have hgn : gb ≠ g := by omega
  have HBy := Lib.hid hb
  have E1 := Lib.hid e1
  have E2 := Lib.hid e2
  have E3 := Lib.hid e3
  have HX := Lib.hid hX
  have hNu := Lib.hid (fun (W : World) (gr : Fr w W) o told HR n lo hi h1 h2 => numRow g gb ob c L o n lo hi told false W gr.ok HR (hA.fr gr) hgn hb h1 h2 hc hL hgg)
  have hTk := Lib.hid (fun (W : World) (gr : Fr w W) o told HR k h1 => takeRow g gb ob c L o k told false W gr.ok HR (hA.fr gr) hgn h1 hc hL hgg)
  have wm : IntKind.i64.wrap m = m := IntWalk.i64_in _ ⟨by omega, by omega⟩
  obtain ⟨iL, hiL, hzL, hsL, hyL⟩ := info_leaf
  have HG := Lib.hid hiL
  have tok0 : True := trivial
  obtain ⟨i0, i1, i2, i3, i4, i5⟩ := blk6 H2; have z0 := unfroz H2 0; have z1 := unfroz H2 1; have z2 := unfroz H2 2; have z3 := unfroz H2 3; have z4 := unfroz H2 4; have z5 := unfroz H2 5; have j0 := idemC H2 i0; have j1 := idemC H2 i1; have j2 := idemC H2 i2; have j3 := idemC H2 i3; have j4 := idemC H2 i4; have j5 := idemC H2 i5
  clear f2 H1 h0 h1 h2 h3 h4 hread hX e1 e2 e3 hb hiL
  go_enter Tryd.func13, Tryd.ntmps13
  go_upto_block 0 with (first
    | (go_at_call 32; have _t := tok0; clear i0 i1 i2 i3 i4 i5 z0 z1 z2 z3 z4 z5 j0 j1 j2 j3 j4 j5; (have ct := hNu.out _ f _ _ HR 2 0 4095 (by omega) (by omega)); rw [E1.out] at ct; refine ct.mono ?_; clear ct; rintro e wa ⟨rfl, q, HRa⟩; replace H2 := grown_blk' q H2 (fun k => h12 (by injection k)); replace f := row_own f hw q l1; clear q tok0 HR; have HR := HRa; clear HRa; have y2 := unfroz H2 2; have y2c := (blk6 H2).2.2.1; obtain ⟨wb, hwb, HM, q⟩ := set_grown H2 2 (.int .i64 m); simp only [List.setIfInBounds_toArray, List.set_cons_zero, List.set_cons_succ] at HM; replace f := row_own f hw q l2; replace HR := HR.grown q (fun h => h12 (by injection h with h; exact h.symm)); clear q H2; have H2 := HM; clear HM; have tok1 : True := trivial)
    | (go_at_call 32; have _t := tok1; clear y2 y2c hwb; (have ct := hNu.out _ f _ _ HR 8 0 18446744073709551615 (by omega) (by omega)); rw [E2.out] at ct; refine ct.mono ?_; clear ct; rintro e wa2 ⟨rfl, q, HRa⟩; replace H2 := grown_blk' q H2 (fun k => h12 (by injection k)); replace f := row_own f hw q l1; clear q tok1 HR; have HR := HRa; clear HRa; have y3 := unfroz H2 3; have y3c := (blk6 H2).2.2.2.1; obtain ⟨wb2, hwb2, HM, q⟩ := set_grown H2 3 (.int .u64 s); simp only [List.setIfInBounds_toArray, List.set_cons_zero, List.set_cons_succ] at HM; replace f := row_own f hw q l2; replace HR := HR.grown q (fun h => h12 (by injection h with h; exact h.symm)); clear q H2; have H2 := HM; clear HM; obtain ⟨i0, i1, i2, i3, i4, i5⟩ := blk6 H2; obtain ⟨w5, g5, hg5, hw5, f5, hz5, H5⟩ := boxedN f.ok #[.string ⟨#[47]⟩, .int .i64 2, .int .i64 m, .int .u64 s, .slice none 0 0, .string ⟨#[]⟩] 45; have l5' : w.heap.size ≤ g5 := (by have := f.size; omega); replace f := f.trans f5; replace HR := HR.fr f5))
  have HO0 : Hid (w5.ownsRow w.heap.size 45 6 (.slice (some ⟨g5, 0, none⟩) 1 1) 1 (lflat [(rootLf m s, .slice none 0 0)])) := Lib.hid (own_block H5 l5' (by unfold maxLen; omega) rfl)
  have HLO0 : Hid (LO w5 w.heap.size [(rootLf m s, .slice none 0 0)]) := Lib.hid (fun p hp => by rw [List.mem_singleton.1 hp]; exact OwnB.nil _ _)
  have HF0 := Lib.hid f
  have HR0 := Lib.hid HR
  clear i0 i1 i2 i3 i4 i5 y3 y3c hwb2 f5 H5 H2 f HR k0 k1 k2 k3 k4 k0' hw1 hw2 hw5
  go_cut [6] (fun v6 wc => ∃ (a : Option Addr) (tv : List (Lf × Value)) (d : Nat) (told : Int), v6 = .slice a tv.length d ∧ Hid (tv.map Prod.fst = T) ∧ Hid (Fr w wc) ∧ Hid (RX wc g (some ⟨gb, ob, none⟩) c L ot told false) ∧ Hid (wc.ownsRow w.heap.size 45 6 (.slice a tv.length d) tv.length (lflat tv)) ∧ Hid (LO wc w.heap.size tv))
  case first =>
    go_wp2_with fail
    go_loopg [6] (L.length + 1) (fun k v6 wc => ∃ (tv : List (Lf × Value)) (p : Lf × Value) (gt d : Nat) (ns : List ByteArray) (told : Int) (oi : Er), v6 = .slice (some ⟨gt, 0, none⟩) (tv.length + 1) d ∧ Hid (treeX gtB L false k ((tv ++ [p]).map Prod.fst) ns (decide (p.1.ty = 2)) oi = (T, ot)) ∧
      Hid (∀ j, oi = .ok j → L.length < k + j ∧ p.1.path = pathOf ns ∧ Good ns p.1.ty ∧ tv.length ≤ j) ∧ Hid (Fr w wc) ∧ Hid (RX wc g (some ⟨gb, ob, none⟩) c L oi told false) ∧ Hid (wc.ownsRow w.heap.size 45 6 (.slice (some ⟨gt, 0, none⟩) (tv.length + 1) d) (tv.length + 1) (lflat (tv ++ [p]))) ∧ Hid (LO wc w.heap.size (tv ++ [p])))
    case atStart =>
      refine ⟨[], (rootLf m s, .slice none 0 0), g5, 1, [], 0, o2, rfl, Lib.hid ?_, Lib.hid ?_, HF0, HR0, HO0, HLO0⟩
      · simpa [rootLf] using E3.out
      · intro j hj
        subst hj
        have h9 := numX_on (by rw [E2.out])
        obtain ⟨i9, _, _, hj9⟩ := h9
        exact ⟨by omega, by rw [pathOf_nil]; rfl, good_root, Nat.zero_le _⟩
    case round =>
      clear HF0 HR0 HO0 HLO0
      obtain ⟨tv, p, gt, d, ns, told, oi, rfl, HT, HGo, f, HR, HO, HLO⟩ := hrel
      obtain ⟨i, hi, hoi, hoe, HB⟩ := HR.out
      unfold RXB at HB
      obtain ⟨c0, c1, c2, c3, c4⟩ := blk5 HB
      have HEND : ∀ (hT : treeX gtB L false gk ((tv ++ [p]).map Prod.fst) ns (decide (p.1.ty = 2)) oi = ((tv ++ [p]).map Prod.fst, oi)), ∃ (a : Option Addr) (tv' : List (Lf × Value)) (d' : Nat) (told : Int), Value.slice (some ⟨gt, 0, none⟩) (tv.length + 1) d = .slice a tv'.length d' ∧ Hid (tv'.map Prod.fst = T) ∧ Hid (Fr w wr) ∧ Hid (RX wr g (some ⟨gb, ob, none⟩) c L ot told false) ∧ Hid (wr.ownsRow w.heap.size 45 6 (.slice a tv'.length d') tv'.length (lflat tv')) ∧ Hid (LO wr w.heap.size tv') := fun hT => by
        have h := HT.out
        rw [hT] at h
        simp only [Prod.mk.injEq] at h
        obtain ⟨h1, h2⟩ := h
        subst h2
        refine ⟨some ⟨gt, 0, none⟩, tv ++ [p], d, told, by simp, Lib.hid h1, f, HR, ?_, HLO⟩
        have hl : (tv ++ [p]).length = tv.length + 1 := by simp
        rw [hl]
        exact HO
      have HEND := Lib.hid HEND
      by_cases hoe : ∃ e, oi = .error e
      · obtain ⟨e, rfl⟩ := hoe
        have d2 : (Er.num (.error e) == 0) = false := by simpa [Er.num] using rx_err HR.out
        clear HB hi hoi
        go_wp2_with fail
        go_meet
        exact HEND.out (treeX_error _ _ _ _ _ _ _ _)
      · obtain ⟨j, rfl⟩ : ∃ j, oi = .ok j := by cases oi with
          | error e => exact absurd ⟨e, rfl⟩ hoe
          | ok j => exact ⟨j, rfl⟩
        obtain rfl := hoi j rfl
        have d2 : (Er.num (.ok i) == 0) = true := rfl
        clear hoe
        by_cases hlt : i < L.length
        · have d3 : decide ((i : Int) < (L.length : Int)) = true := decide_eq_true (by omega)
          have hcell := bytes_cell (hA.fr f.out) i hlt
          have d4 : (0 : Int) ≤ (i : Int) := by omega
          have d5 : (i : Int) < (L.length : Int) := by omega
          obtain ⟨b, hbb⟩ : ∃ b, L.getD i 0 = b := ⟨_, rfl⟩
          rw [hbb] at hcell
          by_cases h255 : b = 255
          · have d6 : (b != 255) = false := by simpa using h255
            have HS : Hid (¬ (i < L.length ∧ L.getD i 0 ≠ 255)) := Lib.hid (fun h => h.2 (by rw [hbb]; exact h255))
            clear HB hi hoi h255 hbb
            go_wp2_with fail
            go_meet
            exact HEND.out (treeX_stop _ _ _ _ _ _ _ _ HS.out)
          · have d6 : (b != 255) = true := by simpa using h255
            obtain ⟨hk, hP, hgd, hti⟩ := HGo.out i rfl
            obtain ⟨⟨pp, pty, pm, ps, pd, pt⟩, pv⟩ := p
            dsimp only at hP hgd
            subst hP
            obtain ⟨⟨⟨lf, ns'⟩, o'⟩, hX'⟩ : ∃ X, leafX gtB L false ns (decide (pty = 2)) (.ok i) = X := ⟨_, rfl⟩
            have hlf := leaf_go (fun e w' => ∃ va vc told', e = Ending.returned (.agg #[.string lf.path, .int .i64 lf.ty, .int .i64 lf.mode, .int .u64 lf.stamp, .slice va lf.data.length vc, .string lf.tgt]) ∧ wr.grownBy w' (some g) ∧ RX w' g (some ⟨gb, ob, none⟩) c L o' told' false ∧ OwnB w' wr.heap.size (.slice va lf.data.length vc) lf.data) g gb ob c L (.ok i) told false wr f.out.ok HR.out (hA.fr f.out) hgn HBy.out hc hL hgg ns hgd.names hgd.deep hgd.size pty pm ps pv pt hgd.dir
              (Lib.hid (by rw [hX']; exact fun w' v told' h1 h2 h3 => (by obtain ⟨a, c', hv⟩ := h3.form; subst hv; exact ⟨_, _, told', rfl, h1, h2, h3⟩)))
            have HLF := Lib.hid hlf
            have HX' := Lib.hid hX'
            have HK := Lib.hid hk
            have HGD := Lib.hid hgd
            have hL0 := HO.out
            rw [lflat_snoc] at hL0
            have hfl := lflat_length tv
            have y0 := own_at hfl hL0 0 _ rfl
            have y1 := own_at hfl hL0 1 _ rfl
            have y2 := own_at hfl hL0 2 _ rfl
            have y3 := own_at hfl hL0 3 _ rfl
            have y4 := own_at hfl hL0 4 _ rfl
            have y5 := own_at hfl hL0 5 _ rfl
            dsimp only at y0 y1 y2 y3 y4 y5
            rw [Nat.add_zero] at y0
            obtain ⟨rcs, HRb⟩ := rx_block HR.out
            have HRb := Lib.hid HRb
            have htv : tv.length ≤ 1073741824 := by omega
            have hcd : tv.length + 1 ≤ d := own_cap HO.out
            have hlast : (tv.length : Int) < ((tv.length + 1 : Nat) : Int) := by omega
            have HPk : Hid (i < L.length ∧ L.getD i 0 ≠ 255) := Lib.hid ⟨hlt, by rw [hbb]; exact h255⟩
            clear HB hi hoi h255 hbb hlf hX' hk hgd HGo hL0 hfl
            go_wp2_with (first
              | (go_at_call 31; refine HLF.out.mono ?_; rintro e wl ⟨va, vc, told', rfl, q, HRn, HD⟩; clear y0 y1 y2 y3 y4 y5 c0 c1 c2 c3 c4 hcell; go_loud (have O1 := own_grown HO.out q HRb.out (by decide); have LO1 := HLO.out.cells q HRb.out (by decide); have f1 := row_own f.out hw q l1; have HD1 := HD.low f.out.size); go_loud (obtain ⟨w3, g3, hg3, hw3, f3, hz3, H3⟩ := boxedN f1.ok #[.string lf.path, .int .i64 lf.ty, .int .i64 lf.mode, .int .u64 lf.stamp, .slice va lf.data.length vc, .string lf.tgt] 45; obtain ⟨y0, y1, y2, y3, y4, y5⟩ := blk6 H3; obtain ⟨w4, g4, hg4, hw4, f4, hz4, H4⟩ := boxedN f3.ok #[.string lf.path, .int .i64 lf.ty, .int .i64 lf.mode, .int .u64 lf.stamp, .slice va lf.data.length vc, .string lf.tgt] 45; have f34 := f3.trans f4; have O2 := own_fr O1 f34; have LO2 := LO1.fr f34; have HR2 := HRn.fr f34; have f2 := f1.trans f34); go_loud (obtain ⟨v5, w5', hap, O5, q5, hob⟩ := append_src Tryd.underlying26 HG.out hzL hsL hyL rfl (by decide) 26 O2 (some ⟨g4, 0, none⟩) 1 1 _ (Src.lit H4 1 1) (by simp) (by simp [Value.oneCell']) (by unfold maxLen; omega) (by omega) f2.size); go_loud (obtain ⟨ga, d2', hv5, _, _⟩ := World.ownsRow.form O5 (by omega); subst hv5); go_loud (have HF := Lib.hid (And.intro (f2.row hw q5 (own_base' O2)) (And.intro (HR2.grown q5 (rx_ne HR2 O2 (by decide))) (And.intro O5 ((LO2.snoc (p := (lf, .slice va lf.data.length vc)) (HD1.fr f34)).own q5 O2 (by decide)))))); clear O1 LO1 f1 HD1 f3 f4 f34 O2 LO2 HR2 f2 O5 q5 hob HD HRn q H3 H4)
              | (at_builtin; refine wpList_append_run rfl _ _ 26 26 rfl (by simp [Act.eval]) (by simp [Act.eval]) hap ?_))
            cases gk with
            | zero => exact absurd HK.out (by omega)
            | succ k =>
              go_roundg k
              case measure => omega
              case rel =>
                refine ⟨tv ++ [(⟨pathOf ns, pty, pm, ps, pd, pt⟩, pv)], (lf, .slice va lf.data.length vc), ga, d2', ns', told', o', by simp, Lib.hid ?_, Lib.hid (fun j hj => ?_), Lib.hid HF.out.1, Lib.hid HF.out.2.1, Lib.hid ?_, Lib.hid HF.out.2.2.2⟩
                · have h := HT.out
                  simp only [treeX] at h
                  rw [if_pos HPk.out, HX'.out] at h
                  simpa using h
                · subst hj
                  have hp := leafX_on (by rw [HX'.out])
                  obtain ⟨i', e1, a1, b1⟩ := hp
                  injection e1 with e1
                  have := HK.out
                  have hg := leafX_Good HBy.out HGD.out HX'.out
                  exact ⟨by omega, hg.1, hg.2, by simp; omega⟩
                · have h := HF.out.2.2.1
                  rw [lflat_snoc]
                  simpa [lcell] using h
        · have d3 : decide ((i : Int) < (L.length : Int)) = false := decide_eq_false (by omega)
          have d5 : (L.length : Int) ≤ (i : Int) := by omega
          have HS : Hid (¬ (i < L.length ∧ L.getD i 0 ≠ 255)) := Lib.hid (fun h => hlt h.1)
          clear HB hi hoi hlt
          go_wp2_with fail
          go_meet
          exact HEND.out (treeX_stop _ _ _ _ _ _ _ _ HS.out)
  case rest =>
    obtain ⟨a, tv, d, told, rfl, HTV, HF, HR, HO, HLO⟩ := hcut
    replace HR := HR.out
    replace HO := HO.out
    have f := HF.out
    clear HF0 HR0 HO0 HLO0 HF
    obtain ⟨⟨zb, o3⟩, b1⟩ : ∃ p, takeX L 1 ot = p := ⟨_, rfl⟩
    obtain ⟨⟨sb, o4⟩, b2⟩ : ∃ p, takeX L 4 o3 = p := ⟨_, rfl⟩
    have hsb := takeX_ok HBy.out 4 o3
    rw [b2] at hsb
    dsimp only at hsb
    have hsb4 : sb.length ≤ 4 := hsb.2.1
    have HSB := Lib.hid hsb.1
    have hend : endX crcI L T ot = endE crcI L T sb o4 := by rw [endX_E]; simp only [b1, b2]
    have HEN := Lib.hid (hend.symm.trans HX.out)
    have HTn := Lib.hid (fun j (h : o4 = .ok j) => takeX_on (L := L) (n := 4) (o := o3) (j := j) (by rw [b2, h]))
    have B1 := Lib.hid b1
    have B2 := Lib.hid b2
    clear b1 b2 hend hsb HX
    obtain ⟨rcs, HRb⟩ := rx_block HR
    have tok2 : True := trivial
    go_upto_if 104 with (first
      | (go_at_call 33; have _t := tok2; (have ct := hTk.out _ f _ _ HR 1 (by omega)); rw [B1.out] at ct; refine ct.mono ?_; clear ct; rintro e wt ⟨B0, dn0, rfl, _, _, _, _, q, HRa⟩; replace HO := own_grown HO q HRb (by decide); replace HLO := Lib.hid (HLO.out.cells q HRb (by decide)); replace f := row_own f hw q l1; clear q HR HRb tok2; have HR := HRa; clear HRa; (obtain ⟨i3, hi3, hoi3, hoe3, HB3⟩ := HR); have HRb := HB3; unfold RXB at HRb; (obtain ⟨c0, c1, c2, c3, c4⟩ := blk5 HRb); have HR2 : RX wt g (some ⟨gb, ob, none⟩) c L o3 told false := ⟨i3, hi3, hoi3, hoe3, HB3⟩; (have HI3 := Lib.hid (And.intro hi3 hoi3)); clear hoi3 hoe3 HB3 hi3; have tok3 : True := trivial)
      | (go_at_call 33; have _t := tok3; clear c0 c1 c2 c3 c4; (have ct := hTk.out _ f _ _ HR2 4 (by omega)); rw [B2.out] at ct; dsimp only at ct; refine ct.mono ?_; clear ct; rintro e wt2 ⟨B, dn, rfl, hdn, hdn2, _, hBn, q, HRa⟩; replace HO := own_grown HO q HRb (by decide); replace HLO := Lib.hid (HLO.out.cells q HRb (by decide)); replace f := row_own f hw q l1; clear q HR2 HRb tok3; have HR := HRa; clear HRa; have e2 := (rx_cells HR).1))
    by_cases hoe : ∃ e, o4 = .error e
    · obtain ⟨e, rfl⟩ := hoe
      have d2 : (Er.num (.error e) != 0) = true := by simpa [Er.num] using rx_err HR
      clear HR HO HLO
      go_wp2
      have r_e2 := cell_regrown e2
      refine wp_region_quiet_below (by kernel_rfl) (by kernel_rfl) ?_
      repeat (go_big_quiet_step (fail))
      refine wpQuiet_nil ?_
      intro wq hwq
      have q := Fr.regrown f.ok hwq
      clear hwq r_e2
      replace e2 := q.cell e2
      replace f := f.trans q
      clear q
      go_wp2
      show Q (.returned (.tuple #[.slice none 0 0, .int .i64 e])) _
      have hx := HEN.out
      simp only [endE] at hx
      subst hx
      exact HP.out _ _ f (TreeAt.nil _ _)
    · obtain ⟨j, rfl⟩ : ∃ j, o4 = .ok j := by cases o4 with
        | error e => exact absurd ⟨e, rfl⟩ hoe
        | ok j => exact ⟨j, rfl⟩
      clear hoe
      have d2 : (Er.num (.ok j) != 0) = false := rfl
      obtain ⟨j', rfl, hjj, hjl⟩ := HTn.out j rfl
      obtain ⟨hi3, hoi3⟩ := HI3.out
      obtain rfl := hoi3 j' rfl
      obtain ⟨cr, hcr⟩ : ∃ x, crcI (L.take i3) = x := ⟨_, rfl⟩
      have hcrr := crcI_rg (HBy.out.take i3)
      rw [hcr] at hcrr
      obtain ⟨bq, hbq⟩ : ∃ b, ((strOfNums sb).toList != (strOfNums (le cr 4)).toList) = b := ⟨_, rfl⟩
      have hbq2 : ((strOfNums sb).toList == (strOfNums (le cr 4)).toList) = !bq := by rw [← hbq]; simp [bne]
      have hE : X = if bq = true then ([], 192) else if j < L.length then ([], 190) else (T, 0) := by
        have hx := HEN.out
        simp only [endE] at hx
        rw [show j - 4 = i3 by omega, hcr] at hx
        rw [← hx, ← hbq]
        have hs := strOfNums_inj HSB.out (fun x hx => le_mem cr 4 x hx)
        by_cases h : sb = le cr 4
        · have hb : ((strOfNums sb).toList != (strOfNums (le cr 4)).toList) = false := by rw [h]; exact bne_self_eq_false _
          rw [hb, if_pos h]; rfl
        · have hb : ((strOfNums sb).toList != (strOfNums (le cr 4)).toList) = true := bne_iff_ne.2 (fun k => h (hs (bs_ext (by rw [← toL, ← toL]; exact k))))
          rw [hb, if_neg h]; rfl
      have HE := Lib.hid hE
      have hlen : (L.take i3).length = i3 := by rw [List.length_take]; omega
      have hAt : Hid (BytesAt wt2 (some ⟨gb, ob, none⟩) (L.take i3)) := Lib.hid (by have := (hA.fr f).sub 0 i3; simpa using this)
      have hSm : ∀ W, Fr wt2 W → Calls Tryd.prog 30 #[.slice (some ⟨gb, ob, none⟩) i3 c] W fun e w' => e = .returned (.int .u32 cr) ∧ Fr W w' := fun W q => by
        have h := sum01_any (some ⟨gb, ob, none⟩) c (L.take i3) (HBy.out.take i3) (by omega) (by omega) W q.ok (hAt.out.fr q)
        rwa [hlen, hcr] at h
      have hPt : ∀ W, Fr wt2 W → Calls Tryd.prog 29 #[.int .u64 cr, .int .i64 4] W fun e w' => ∃ v, e = .returned v ∧ OwnB w' W.heap.size v (le cr 4) ∧ Fr W w' := fun W q => put18_any cr hcrr.1 (by omega) 4 (by omega) W q.ok
      have hcv : ∀ W, Fr wt2 W → (convert 22 9 (.slice B sb.length dn)).run Tryd.prog W = .ok (.string (strOfNums sb)) W := fun W q => conv_str W (hBn.fr q) (by omega) dn
      have wcr : IntKind.u64.wrap cr = cr := u64_in ⟨by omega, by omega⟩
      have HSm := Lib.hid hSm
      have HPt := Lib.hid hPt
      have s0 : (0 : Int) ≤ (i3 : Int) := by omega
      have s1 : (i3 : Int) ≤ (c : Int) := by omega
      have hS0 := Fr.refl f.ok
      have HFo := Lib.hid (And.intro HR (And.intro HO (And.intro HLO.out f)))
      clear HR HO HLO hE hlen hcr hjj hoi3 hi3 hSm hPt e2 HTn HEN HI3
      go_upto_region 16 with fail
      refine Reg.wp_region_late (fun w' => Fr wt2 w') 9 [0, 1, 2, 3, 4] [5, 6, 7, 8, 9] (by kernel_rfl) (by kernel_rfl) hS0.drew ?_
      iterate 5
        refine Reg.wpLateT_step (v := ?_) rfl ?_ (fun w' hS => ?_) ?_
        rotate_left
        · simp [Region.wanted]
        · have hcw' := hcv w' hS
          go_simp
          try (first | rfl | exact ⟨rfl, rfl⟩)
      refine Reg.wpMainT_enter (fn := 30) (args := #[.slice (some ⟨gb, ob, none⟩) i3 c]) rfl (by simp [Region.wanted]) ?_ (HSm.out _ hS0.drew) ?_
      · go_simp
        try (first | rfl | exact ⟨rfl, rfl⟩)
      rintro e wx ⟨rfl, q5⟩
      have hK5 := Fr.trans hS0.drew q5
      refine ⟨_, rfl, .inr hK5, ?_⟩
      refine Reg.wpMainT_run (v := (.int .u64 cr)) (w' := wx) rfl (by simp [Region.wanted]) ?_ (.inr hK5) ?_
      · go_simp
        try (first | rfl | exact ⟨rfl, rfl⟩)
      refine Reg.wpMainT_enter (fn := 29) (args := #[.int .u64 cr, .int .i64 4]) rfl (by simp [Region.wanted]) ?_ (HPt.out _ hK5) ?_
      · go_simp
        try (first | rfl | exact ⟨rfl, rfl⟩)
      rintro e wy ⟨v, rfl, hO, q7⟩
      obtain ⟨va, vd, rfl⟩ := hO.form
      have hcw := conv_str wy hO.at.1 (by rw [le_length]; omega) vd
      have hKx := Fr.trans hK5 q7
      refine ⟨_, rfl, .inr hKx, ?_⟩
      refine Reg.wpMainT_run (v := (.string (strOfNums (le cr 4)))) (w' := wy) rfl (by simp [Region.wanted]) ?_ (.inr hKx) ?_
      · go_simp
        try (first | rfl | exact ⟨rfl, rfl⟩)
      refine Reg.wpMainT_run (v := (.bool bq)) (w' := wy) rfl (by simp [Region.wanted]) ?_ (.inl rfl) ?_
      · go_simp
        try (first | rfl | exact ⟨rfl, rfl⟩)
      refine Reg.wpMainT_nil ?_
      simp only [List.getElem_toArray, List.getElem_cons_succ, List.getElem_cons_zero, Act.put, List.setIfInBounds_toArray, List.set_cons_zero, List.set_cons_succ]
      have HR9 := HFo.out.1.fr hKx
      obtain ⟨i9, hi9, hoi9, hoe9, HB9⟩ := HR9
      unfold RXB at HB9
      obtain ⟨c0, c1, c2, c3, c4⟩ := blk5 HB9
      obtain rfl := hoi9 j rfl
      have HKx := Lib.hid hKx
      clear hKx hK5 hS0 hcv hcw hO q5 q7 hoi9 hoe9 HB9
      cases bq with
      | true =>
        go_wp2
        show Q (.returned (.tuple #[.slice none 0 0, .int .i64 192])) _
        have hx := HE.out
        rw [if_pos trivial] at hx
        subst hx
        exact HP.out _ _ (HFo.out.2.2.2.trans HKx.out) (TreeAt.nil _ _)
      | false =>
        by_cases hlt : i9 < L.length
        · have d7 : (i9 : Int) < (L.length : Int) := by omega
          go_wp2
          show Q (.returned (.tuple #[.slice none 0 0, .int .i64 190])) _
          have hx := HE.out
          rw [if_neg (by decide), if_pos hlt] at hx
          subst hx
          exact HP.out _ _ (HFo.out.2.2.2.trans HKx.out) (TreeAt.nil _ _)
        · have d7 : (L.length : Int) ≤ (i9 : Int) := by omega
          go_wp2
          show Q (.returned (.tuple #[.slice a tv.length d, .int .i64 0])) _
          have hx := HE.out
          rw [if_neg (by decide), if_neg hlt] at hx
          subst hx
          exact HP.out _ _ (HFo.out.2.2.2.trans HKx.out) ⟨_, tv, d, rfl, HTV.out, own_fr HFo.out.2.1 HKx.out, HFo.out.2.2.1.fr HKx.out⟩
theorem readRef_any (A : Option Addr) (c : Nat) (L : List Int) (w : World) (hw : Ok w) (hA : BytesAt w A L) (hb : bytesOk L) (hc : L.length ≤ c) (hL : L.length ≤ 1073741824) (hg : 4 ≤ w.heap.size) :
    Calls Tryd.prog 13 #[.slice A L.length c] w fun e w' => ∃ v, e = .returned (.tuple #[v, .int .i64 (readX crcI L).2]) ∧ Fr w w' ∧ TreeAt w' w.heap.size v (readX crcI L).1 := by
  cases hh : headB L with
  | false =>
    refine (read_no A c L w hw hA hh).mono ?_
    rintro e w' ⟨rfl, rfl⟩
    have : readX crcI L = ([], 190) := by unfold readX; rw [hh]; rfl
    rw [this]
    exact ⟨_, rfl, Fr.refl hw, TreeAt.nil _ _⟩
  | true =>
    have hA' := hA
    rcases hA with h | ⟨g, o, rfl, hlt, h⟩
    · subst h; simp [headB] at hh
    · exact read_yes _ g o c L w hw hA' hlt hb hc hL hg hh (Lib.hid fun v w' h1 h2 => ⟨v, rfl, h1, h2⟩)
end Go.Proofs.YtlnaeppbhjmocaaDoor
set_option linter.unusedSimpArgs false
set_option linter.unusedVariables false
namespace Go.Proofs.YtlnaeppbhjmocaaDoor
open Go.ChangeShapes Go.WideShapes Go.ChangeAt Go.RowKit

/-! ### Bulk -/
section
variable {H : Type}
theorem bulk_pos (x : DataW H) : 1 ≤ Rows.uptoBulk x := by
  cases x with
  | lit l => cases l <;> simp [Rows.uptoBulk]
  | _ => simp [Rows.uptoBulk]
theorem bulk_len (es : List (DataW H)) : es.length ≤ Rows.uptoBulkAll es := by
  induction es with
  | nil => simp [Rows.uptoBulkAll]
  | cons x r ih => have := bulk_pos x; simp only [Rows.uptoBulkAll, List.length_cons]; omega
theorem bulk_get {es : List (DataW H)} {i : Nat} {e : DataW H} (h : es[i]? = some e) : Rows.uptoBulk e ≤ Rows.uptoBulkAll es := by
  induction es generalizing i with
  | nil => simp at h
  | cons x r ih =>
    cases i with
    | zero => simp at h; subst h; simp only [Rows.uptoBulkAll]; omega
    | succ i => have := ih (by simpa using h); simp only [Rows.uptoBulkAll]; omega
end

section
variable {H : Type} {enc : TypeId × Value → H} {w : World} {base : Nat} {sp : Nat → Bool} {held : Bool}

/-- a slice of structs of k cells -/
theorem open_rows {α : Type} [Inhabited α] {Ts e : TypeId} {k : Nat} (f : α → List Value) (hf : ∀ a, (f a).length = k) (hk : 0 < k) (ht : Tryd.prog.underlying Ts = some (.slice e)) (hc : Tryd.prog.cellsOf e = k) (Q : α → DataW H → Prop)
    (hopen : ∀ {fuel : Nat} {cs : List Value} {x : DataW H × List MemPlace}, DataW.trod enc Tryd.prog w base sp held fuel e cs = some x → ∃ a, Q a x.1 ∧ cs = f a)
    {fuel : Nat} {cs : List Value} {x : DataW H × List MemPlace} (h : DataW.trod enc Tryd.prog w base sp held fuel Ts cs = some x) :
    ∃ (l : List α) (A : Option Addr) (c : Nat), cs = [.slice A l.length c] ∧ Row w A k (l.map f) ∧ l.length ≤ c ∧ (A = none → c = 0) ∧ l.length ≤ Rows.uptoBulk x.1 ∧ ∀ a ∈ l, ∃ d, Q a d ∧ Rows.uptoBulk d ≤ Rows.uptoBulk x.1 := by
  rcases Deep.open_slice ht h with ⟨rfl, rfl⟩ | ⟨ad, len, cap, m, n, D, Pl, rfl, hb, hl, hm, hmm, rfl, hx⟩
  · exact ⟨[], none, 0, rfl, .inl rfl, Nat.le_refl _, fun _ => rfl, by simp, fun a ha => by cases ha⟩
  rw [hc] at hx
  have hle : len ≤ m := by rw [hmm]; split <;> omega
  have key : ∀ i, i < len → ∃ a : α, Q a (D i) ∧ w.cells? base (ad.add (i * k)) k = some (f a) := fun i hi => by
    obtain ⟨cs', h1, h2⟩ := hx i (by omega)
    obtain ⟨a, ha, rfl⟩ := hopen h2
    exact ⟨a, ha, h1⟩
  clear hx
  obtain ⟨F, hF⟩ := Deep.choose_lt (α := α) (p := fun i a => Q a (D i) ∧ w.cells? base (ad.add (i * k)) k = some (f a)) key
  have hbulk : Rows.uptoBulkAll ((List.range len).map D) ≤ Rows.uptoBulk (DataW.slice ((List.range len).map D) ((List.range (m - len)).map fun j => D (len + j))) := by
    simp only [Rows.uptoBulk]; omega
  refine ⟨(List.range len).map F, some ad, cap, by simp, ?_, by simpa using hl, (fun e => by cases e), ?_, ?_⟩
  · cases len with
    | zero => exact .inl rfl
    | succ len =>
      right
      have cellsF : ∀ i, i < len + 1 → ∀ j, j < k → w.cell? (ad.add (i * k + j)) = (f (F i))[j]? := fun i hi j hj => by
        have := (World.cells?_some (hF i hi).2).2.2 j hj
        rwa [Deep.add_add] at this
      obtain ⟨b, o, spot⟩ := ad
      have h0 := cellsF 0 (by omega) 0 hk
      obtain ⟨v0, hv0⟩ : ∃ v, (f (F 0))[0]? = some v := ⟨_, List.getElem?_eq_getElem (by rw [hf]; exact hk)⟩
      rw [hv0] at h0
      have hspot : spot = none := by simpa [Addr.add] using World.cell?_spot h0
      subst hspot
      refine ⟨b, o, rfl, by simpa [Addr.add] using World.block_lt_of_cell? w _ h0, fun i c hi j v hj hv => ?_⟩
      have hi' : i < len + 1 := by have := (List.getElem?_eq_some_iff.1 hi).1; simpa using this
      have hce : c = f (F i) := by
        simp only [List.getElem?_map, List.getElem?_range hi', Option.map_some, Option.some.injEq] at hi
        exact hi.symm
      subst hce
      have := cellsF i hi' j hj
      rw [Lib.add_plain, hv] at this
      rw [Nat.add_assoc]; exact this
  · have := bulk_len ((List.range len).map D)
    simp only [List.length_map, List.length_range] at this ⊢
    omega
  · intro a ha
    obtain ⟨i, hi, rfl⟩ := List.mem_map.1 ha
    have hi' : i < len := by simpa using hi
    refine ⟨D i, (hF i hi').1, ?_⟩
    exact Nat.le_trans (bulk_get (es := (List.range len).map D) (i := i) (e := D i) (by simp [hi'])) hbulk
end

theorem open_u8s {H : Type} {enc : TypeId × Value → H} {w : World} {base : Nat} {sp : Nat → Bool} {held : Bool} {fuel : Nat} {cs : List Value} {x : DataW H × List MemPlace} (h : DataW.trod enc Tryd.prog w base sp held fuel 22 cs = some x) :
    ∃ (L : List Int) (A : Option Addr) (c : Nat), cs = [.slice A L.length c] ∧ BytesAt w A L ∧ bytesOk L ∧ L.length ≤ c ∧ (A = none → c = 0) ∧ L.length ≤ Rows.uptoBulk x.1 := by
  have hc1 : Tryd.prog.cellsOf 5 = 1 := by kernel_rfl
  obtain ⟨L, A, c, h1, hR, h3, h4, h5, h6⟩ := open_rows (fun a : Int => [Value.int .u8 a]) (fun _ => rfl) (by decide) Tryd.underlying22 hc1 (fun a _ => 0 ≤ a ∧ a ≤ 255)
    (fun h => by
      obtain ⟨a, e0, rfl, w0⟩ := DataW.trod_int Tryd.underlying5 h
      refine ⟨a, ?_, e0⟩
      have := w0
      simp [Lit.wf, IntKind.min, IntKind.max, IntKind.signed, IntKind.bits] at this
      omega) h
  refine ⟨L, A, c, h1, ?_, fun a ha => (h6 a ha).choose_spec.1, h3, h4, h5⟩
  rcases hR with h | ⟨g, o, rfl, hg, hc⟩
  · left; simpa using h
  · refine .inr ⟨g, o, rfl, hg, fun i a hi => ?_⟩
    have := hc i [.int .u8 a] (by simp [hi]) 0 (.int .u8 a) Nat.zero_lt_one rfl
    simpa using this

theorem tab_of_reads {P : Program} {w : World} {name : String} {k : IntKind} {zs : List Int} {g : Nat} {t e : TypeId} {n : Nat}
    (hg : P.globalNamed name = some g) (hty : (P.globals[g]?).map (·.type) = some t) (ht : P.underlying t = some (.array n e)) (he : P.underlying e = some (.int k)) (hce : P.cellsOf e = 1) (hct : P.cellsOf t = n)
    (h : Lib.VarReads P w name (Lib.tabData k zs)) : Lib.TabIs P w name k zs := by
  obtain ⟨g', t', cs, fuel, p, hg', ht', hvar, hd⟩ := h
  obtain rfl := Option.some.inj (hg.symm.trans hg')
  obtain rfl := Option.some.inj (hty.symm.trans ht')
  unfold Lib.TabIs
  rw [hvar, ← Lib.cells_of_tab ht he hce hct hd]
theorem okFours {w : World} (h : Lib.VarReads Tryd.prog w "shale/words.fours" Rows.laid_shale_words_fours) : w.var? Tryd.prog "shale/words.fours" = some foursTab :=
  tab_of_reads gFours (t := 90) (e := 47) (n := 16) (k := .u32) (zs := crcTab.map fun n : Nat => (n : Int)) (by kernel_rfl) (by kernel_rfl) (by kernel_rfl) (by kernel_rfl) (by kernel_rfl) h
theorem sizeOf {W : World} (h : W.ShapedOpen Tryd.prog) : 4 ≤ W.heap.size := by
  have hs : (((begin Tryd.prog (fun _ _ => 0) default).world.heap[3]?).bind Obj.row?).isSome = true := by kernel_rfl
  obtain ⟨⟨zero, t⟩, h0⟩ := Option.isSome_iff_exists.1 hs
  obtain ⟨cs, hh, _⟩ := h.1 3 zero t (of_decide_eq_true (by kernel_rfl)) h0
  exact (Array.getElem?_eq_some_iff.1 hh).1
theorem own : ownKnob Tryd.prog.godebug = none := by kernel_rfl
theorem laidOut : laidOutB Tryd.prog = true := by kernel_rfl
end Go.Proofs.YtlnaeppbhjmocaaDoor
