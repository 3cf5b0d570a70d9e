/- parcel.good: whether a leaf may be, its path apart. -/
import Derived.Test.YtlnaeppbhjmocaaDoorT8
import Derived.Laws.BitsLemmas
import Derived.Deep.CutBlock
import Derived.Test.YtlnaeppbhjmocaaDoorCards
import Derived.Test.YtlnaeppbhjmocaaDoorTie
import Derived.ProofKit
import Derived.WideShapes
import Derived.Deep.DeepHandedRow
import Derived.Lib.LaidU8
import Derived.Lib.LaidTab
import Derived.OpenShut
import Derived.Deep.Slices
import Derived.Laws.Bits64b
import Derived.Deep.DeepCutAuto
import Derived.Laws.RangeString
import Derived.Laws.Runes
import Derived.Laws.Strings3
import Derived.Lib.DecodeN
import Derived.Lib.IndexAny
import Derived.Lib.IndexBytes
import Derived.Deep.LoopGhost
import Derived.WalkMore
import Derived.Lib.Bytealg
import Derived.RegionTactic
import Derived.ChangeAlike
import Derived.Lib.SlBytesConst
import Derived.Laws.MakeOwn
import Derived.Lib.IndexLaws
set_option linter.unusedSectionVars false
set_option linter.unnecessarySimpa false
set_option linter.unusedSimpArgs false
set_option linter.unusedVariables false
set_option linter.unusedSimpArgs false
set_option linter.unusedVariables false
namespace Go.Proofs.YtlnaeppbhjmocaaDoor
open Go.RowKit Go.Proofs Go.Proofs.YtlnaeppbhjmocaaDoorW.PrintWords Go.Proofs.YtlnaeppbhjmocaaDoorW.PrintLast Go.Proofs.YtlnaeppbhjmocaaDoorW.PrintMore

def crcIt : Nat → Nat → Nat
  | 0, x => x
  | n + 1, x => crcIt n (crcBit x)
def crcByte (x : Nat) (b : Int) : Nat := crcIt 8 (x ^^^ b.toNat)
def crcReg : List Int → Nat → Nat
  | [], x => x
  | b :: r, x => crcReg r (crcByte x b)
/-- the check sum -/
def crcN (L : List Int) : Nat := crcReg L 4294967295 ^^^ 4294967295
def crcI (L : List Int) : Int := (crcN L : Int)
theorem crcBit_lt {x : Nat} (h : x < 4294967296) : crcBit x < 4294967296 := by
  unfold crcBit
  split
  · exact Nat.xor_lt_two_pow (n := 32) (by omega) (by decide)
  · omega
theorem crcIt_lt {n x : Nat} (h : x < 4294967296) : crcIt n x < 4294967296 := by
  induction n generalizing x with
  | zero => exact h
  | succ n ih => exact ih (crcBit_lt h)
theorem xor_byte_lt {x : Nat} {b : Int} (h : x < 4294967296) (hb : 0 ≤ b ∧ b ≤ 255) : x ^^^ b.toNat < 4294967296 := Nat.xor_lt_two_pow (n := 32) h (by omega)
theorem crcByte_lt {x : Nat} {b : Int} (h : x < 4294967296) (hb : 0 ≤ b ∧ b ≤ 255) : crcByte x b < 4294967296 := crcIt_lt (xor_byte_lt h hb)
theorem crcReg_lt {L : List Int} (hL : bytesOk L) : ∀ {x : Nat}, x < 4294967296 → crcReg L x < 4294967296 := by
  induction L with
  | nil => exact fun h => h
  | cons b r ih => exact fun h => ih (fun x hx => hL x (List.mem_cons_of_mem _ hx)) (crcByte_lt h (hL b List.mem_cons_self))
theorem crcN_lt {L : List Int} (hL : bytesOk L) : crcN L < 4294967296 := Nat.xor_lt_two_pow (n := 32) (crcReg_lt hL (by decide)) (by decide)
theorem crcI_rg {L : List Int} (hL : bytesOk L) : 0 ≤ crcI L ∧ crcI L ≤ 4294967295 := by have := crcN_lt hL; unfold crcI; omega
theorem xor32 (a b : Nat) (ha : a < 4294967296) (hb : b < 4294967296) : Go.bits .xor .u32 a b = ((a ^^^ b : Nat) : Int) := by
  have hp : (2 : Nat) ^ IntKind.u32.bits = 4294967296 := rfl
  have ha' : a % 2 ^ IntKind.u32.bits = a := Nat.mod_eq_of_lt ha
  have hb' : b % 2 ^ IntKind.u32.bits = b := Nat.mod_eq_of_lt hb
  simp only [Go.bits, BitVec.ofInt_natCast, BitVec.toNat_xor, BitVec.toNat_ofNat, ha', hb']
  have := Nat.xor_lt_two_pow (n := 32) ha hb
  rw [IntKind.wrap_u32]; omega
theorem and32 (a : Nat) (ha : a < 4294967296) : Go.bits .and .u32 (a : Int) 15 = ((a % 16 : Nat) : Int) := by
  have h := (bits_nat .u32 32 (by decide) (fun n h0 h1 => by rw [IntKind.wrap_u32]; omega) a 15 ha (by decide)).1
  have h2 : a &&& 15 = a % 16 := Nat.and_two_pow_sub_one_eq_mod a 4
  rw [h2] at h
  exact h
theorem sum_l1 (l : List Int) (p : Int) : ∀ (d i k x : Nat), i + d = 8 → x < 4294967296 → PSealed.shaleref01_Sum.l1 (k + d + 1) l (x : Int) p (i : Int) = PSealed.shaleref01_Sum.l0 k l (crcIt d x : Nat) (wrap64 (p + 1)) := by
  intro d
  induction d with
  | zero =>
    intro i k x hi hx
    simp only [PSealed.shaleref01_Sum.l1]
    rw [if_neg (by omega)]; rfl
  | succ d ih =>
    intro i k x hi hx
    have e1 : Int.tmod (x : Int) 2 = ((x % 2 : Nat) : Int) := by rw [Int.tmod_eq_emod_of_nonneg (by omega)]; omega
    have e2 : Int.tdiv (x : Int) 2 % 4294967296 = ((x / 2 : Nat) : Int) := by rw [Int.tdiv_eq_ediv_of_nonneg (by omega)]; omega
    have e3 : wrap64 ((i : Int) + 1) = ((i + 1 : Nat) : Int) := by rw [wr64 ⟨by omega, by omega⟩]; omega
    obtain ⟨K, hK⟩ : ∃ K, k + d + 1 = K := ⟨_, rfl⟩
    rw [show k + (d + 1) + 1 = K + 1 by omega]
    simp only [PSealed.shaleref01_Sum.l1]
    rw [if_pos (by omega), e1, e2, e3]
    by_cases h : x % 2 = 1
    · rw [if_pos (by omega), show (3988292384 : Int) = ((3988292384 : Nat) : Int) from rfl, xor32 _ _ (by omega) (by decide)]
      have hc : crcBit x = x / 2 ^^^ 3988292384 := by unfold crcBit; rw [if_pos h]
      rw [← hc, ← hK, ih (i + 1) k (crcBit x) (by omega) (crcBit_lt hx)]; rfl
    · rw [if_neg (by omega)]
      have hc : crcBit x = x / 2 := by unfold crcBit; rw [if_neg h]
      rw [← hc, ← hK, ih (i + 1) k (crcBit x) (by omega) (crcBit_lt hx)]; rfl
theorem sum_l0 (l : List Int) (hb : bytesOk l) (hl : l.length ≤ 1073741824) : ∀ (d i k x : Nat), i + d = l.length → x < 4294967296 → PSealed.shaleref01_Sum.l0 (k + 10 * d + 1) l (x : Int) (i : Int) = some ((crcReg (l.drop i) x ^^^ 4294967295 : Nat) : Int) := by
  intro d
  induction d with
  | zero =>
    intro i k x hi hx
    simp only [PSealed.shaleref01_Sum.l0]
    rw [if_neg (by omega), show (4294967295 : Int) = ((4294967295 : Nat) : Int) from rfl, xor32 _ _ hx (by decide), List.drop_eq_nil_of_le (by omega)]; rfl
  | succ d ih =>
    intro i k x hi hx
    have hlt : i < l.length := by omega
    have hbi := hb _ (List.getElem_mem hlt)
    have e1 : rd l (i : Int) % 4294967296 = ((l[i].toNat : Nat) : Int) := by
      have : rd l (i : Int) = l[i] := by unfold rd; rw [Int.toNat_natCast]; simp [List.getD, hlt]
      rw [this]; omega
    have e3 : wrap64 ((i : Int) + 1) = ((i + 1 : Nat) : Int) := by rw [wr64 ⟨by omega, by omega⟩]; omega
    rw [show k + 10 * (d + 1) + 1 = (k + 10 * d + 1 + 8 + 1) + 1 by omega]
    simp only [PSealed.shaleref01_Sum.l0]
    have hx2 := xor_byte_lt hx hbi
    rw [if_pos (by omega), if_pos (by omega), e1, xor32 _ _ hx (by omega), show (0 : Int) = ((0 : Nat) : Int) from rfl, sum_l1 l (i : Int) 8 0 _ _ (by omega) hx2, e3, ih (i + 1) k _ (by omega) (crcIt_lt hx2), List.drop_eq_getElem_cons hlt]
    rfl
theorem sum_f (l : List Int) (hb : bytesOk l) (hl : l.length ≤ 1073741824) (k : Nat) (hk : 10 * l.length + 1 ≤ k) : PSealed.shaleref01_Sum.f k l = some (crcI l) := by
  have h := sum_l0 l hb hl l.length 0 (k - (10 * l.length + 1)) 4294967295 (by omega) (by decide)
  unfold PSealed.shaleref01_Sum.f
  rw [show k = k - (10 * l.length + 1) + 10 * l.length + 1 by omega]
  simpa [crcI, crcN] using h
theorem put_l0 (n : Nat) (hn : n ≤ 8) : ∀ (d i : Nat) (x : Int) (out : List Int), i + d = n → 0 ≤ x → x ≤ 18446744073709551615 → out.length = i → PSealed.shaleref18_put.l0 (d + 1) x n out (i : Int) = some (out ++ le x d) := by
  intro d
  induction d with
  | zero =>
    intro i x out hi h0 h1 ho
    simp only [PSealed.shaleref18_put.l0]
    rw [if_neg (by omega)]; simp [le]
  | succ d ih =>
    intro i x out hi h0 h1 ho
    have e1 : IntKind.u64.wrap (Int.tdiv x 256) = x / 256 := by rw [Int.tdiv_eq_ediv_of_nonneg h0]; exact u64_in ⟨by omega, by omega⟩
    have e3 : wrap64 ((i : Int) + 1) = ((i + 1 : Nat) : Int) := by rw [wr64 ⟨by omega, by omega⟩]; omega
    obtain ⟨D, hD⟩ : ∃ D, d + 1 = D := ⟨_, rfl⟩
    rw [hD]
    simp only [PSealed.shaleref18_put.l0]
    rw [if_pos (by omega), if_pos (by omega), e1, e3, ← hD, ih (i + 1) (x / 256) (out ++ [x % 256]) (by omega) (by omega) (by omega) (by simp [ho])]
    simp [le]
theorem put_f (x : Int) (h0 : 0 ≤ x) (h1 : x ≤ 18446744073709551615) (n : Nat) (hn : n ≤ 8) : PSealed.shaleref18_put.f (n + 1) x n = some (le x n) := by
  have := put_l0 n hn n 0 x [] (by omega) h0 h1 rfl
  simpa [PSealed.shaleref18_put.f] using this
theorem put18_any (x : Int) (h0 : 0 ≤ x) (h1 : x ≤ 18446744073709551615) (n : Nat) (hn : n ≤ 8) (w : World) (hw : Ok w) :
    Calls Tryd.prog 29 #[.int .u64 x, .int .i64 n] w fun e w' => ∃ v, e = .returned v ∧ OwnB w' w.heap.size v (le x n) ∧ Fr w w' :=
  (PSealed.shaleref18_put.calls _ x n _ w (put_f x h0 h1 n hn)).mono fun e w' ⟨v, he, hR, hb⟩ => ⟨v, he, OwnB.ofR hR, Fr.of hw hb⟩
theorem sealed_any (A : Option Addr) (c : Nat) (L : List Int) (hb : bytesOk L) (hc : L.length ≤ c) (hL : L.length ≤ 1073741824) (w : World) (hw : Ok w) (hA : BytesAt w A L) :
    Calls Tryd.prog 11 #[.slice A L.length c] w fun e w' => ∃ v, e = .returned v ∧ OwnB w' w.heap.size v (L ++ le (crcI L) 4) ∧ Fr w w' := by
  have hr := crcI_rg hb
  have hp := put_f (crcI L) hr.1 (by omega) 4 (by omega)
  have hpm : PSealed.shaleref18_put.f (10 * L.length + 10) (crcI L) 4 = some (le (crcI L) 4) := by
    have := put_f (crcI L) hr.1 (by omega) 4 (by omega)
    have mono : ∀ m, PSealed.shaleref18_put.f (5 + m) (crcI L) 4 = some (le (crcI L) 4) := by
      intro m
      induction m with
      | zero => exact this
      | succ m ih => exact PSealed.shaleref18_put.mono _ _ (5 + m) _ ih
    have h2 := mono (10 * L.length + 5)
    rwa [show 5 + (10 * L.length + 5) = 10 * L.length + 10 by omega] at h2
  have hf : PSealed.shaleref18_Sealed.f (10 * L.length + 10) L = some (L ++ le (crcI L) 4) := by
    unfold PSealed.shaleref18_Sealed.f
    simp only [Option.bind_some, List.nil_append, List.length_nil, Nat.zero_add]
    rw [if_pos (by omega)]
    rw [sum_f L hb hL _ (by omega)]
    simp only [Option.bind_some]
    rw [u64_in ⟨hr.1, by omega⟩, hpm]
    simp only [Option.bind_some]
    rw [if_pos (by rw [le_length]; omega)]
  exact (PSealed.shaleref18_Sealed.calls _ A c L _ w (hA.toC (by omega)) hc hf).mono fun e w' ⟨v, he, hR, hb⟩ => ⟨v, he, OwnB.ofR hR, Fr.of hw hb⟩

/-! ### The program's sum -/
theorem crc8_tab (x : Nat) : crcIt 8 x = (x / 16 ^^^ crcTab.getD (x % 16) 0) / 16 ^^^ crcTab.getD ((x / 16 ^^^ crcTab.getD (x % 16) 0) % 16) 0 := by
  have h1 := crc_four x
  have h2 := crc_four (x / 16 ^^^ crcTab.getD (x % 16) 0)
  show crcBit (crcBit (crcBit (crcBit (crcBit (crcBit (crcBit (crcBit x))))))) = _
  rw [h1, h2]
theorem tab_lt (i : Nat) : crcTab.getD i 0 < 4294967296 := by
  by_cases h : i < 16
  · have : ∀ i, i < 16 → crcTab.getD i 0 < 4294967296 := by decide
    exact this i h
  · rw [List.getD_eq_getElem?_getD, List.getElem?_eq_none (by simp [crcTab]; omega)]; decide
theorem fours_cell {w : World} (hw : Ok w) (i : Nat) (h : i < 16) : w.cell? ⟨0, i, none⟩ = some (.int .u32 (crcTab.getD i 0)) := by
  have hf := hw.fours
  simp only [World.var?, gFours, Option.bind_some] at hf
  split at hf
  · rename_i cs t fz heq
    injection hf with hf
    subst hf
    simp only [World.cell?, heq]
    show foursTab[i]? = some (.int .u32 (crcTab.getD i 0))
    rcases (by omega : i = 0 ∨ i = 1 ∨ i = 2 ∨ i = 3 ∨ i = 4 ∨ i = 5 ∨ i = 6 ∨ i = 7 ∨ i = 8 ∨ i = 9 ∨ i = 10 ∨ i = 11 ∨ i = 12 ∨ i = 13 ∨ i = 14 ∨ i = 15) with rfl | rfl | rfl | rfl | rfl | rfl | rfl | rfl | rfl | rfl | rfl | rfl | rfl | rfl | rfl | rfl <;> rfl
  · cases hf
set_option maxHeartbeats 3200000 in
set_option maxRecDepth 100000 in
theorem sum_any (A : Option Addr) (c : Nat) (L : List Int) (hb : bytesOk L) (hc : L.length ≤ c) (hL : L.length ≤ 1073741824) (w : World) (hw : Ok w) (hA : BytesAt w A L) :
    Calls Tryd.prog 40 #[.slice A L.length c] w fun e w' => e = .returned (.int .u32 (crcI L)) ∧ w' = w := by
  have HC : Hid (∀ j (h : j < L.length), ∃ a, A = some a ∧ w.cell? (a.add j) = some (.int .u8 (L.getD j 0))) := Lib.hid (fun j hj => by
    rcases hA with h | ⟨g', o', rfl, _, h⟩
    · rw [h] at hj; simp at hj
    · exact ⟨_, rfl, by rw [Lib.add_plain, show L.getD j 0 = L[j] by simp [List.getD, hj]]; exact h j _ (List.getElem?_eq_getElem hj)⟩)
  have HT := Lib.hid (fours_cell hw)
  have HBy := Lib.hid hb
  clear hA hb
  go_enter Tryd.func40, Tryd.ntmps40
  go_wp2_with fail
  go_loop [3, 8] (fun v3 v8 => ∃ k x : Nat, k ≤ L.length ∧ x < 4294967296 ∧ Hid (crcReg (L.drop k) x = crcReg L 4294967295) ∧ v3 = .int .u32 x ∧ v8 = .int .i64 k) (fun _ v8 => L.length - (intOf v8).toNat)
  case atStart => exact ⟨0, 4294967295, Nat.zero_le _, by decide, Lib.hid rfl, rfl, rfl⟩
  case round =>
    obtain ⟨k, x, hk, hx, HR, rfl, rfl⟩ := hrel
    by_cases hlt : k < L.length
    · obtain ⟨a, rfl, hcell⟩ := HC.out k hlt
      have hbk := getD_byte HBy.out k
      obtain ⟨b, hbb⟩ : ∃ b : Nat, L.getD k 0 = (b : Int) := ⟨_, (Int.toNat_of_nonneg hbk.1).symm⟩
      rw [hbb] at hcell hbk
      have d1 : decide ((k : Int) < (L.length : Int)) = true := decide_eq_true (by omega)
      have d2 : (0 : Int) ≤ (k : Int) := by omega
      have d3 : (k : Int) < (L.length : Int) := by omega
      obtain ⟨z, hz⟩ : ∃ z, x ^^^ b = z := ⟨_, rfl⟩
      have hzl : z < 4294967296 := by rw [← hz]; exact Nat.xor_lt_two_pow (n := 32) hx (by omega)
      have e1 := xor32 x b hx (by omega)
      rw [hz] at e1
      have e2 := and32 z hzl
      have e4 := HT.out (z % 16) (by omega)
      obtain ⟨t1, ht1⟩ : ∃ t, crcTab.getD (z % 16) 0 = t := ⟨_, rfl⟩
      have hl1 : t1 < 4294967296 := by rw [← ht1]; exact tab_lt _
      rw [ht1] at e4
      obtain ⟨y, hy⟩ : ∃ y, z / 16 ^^^ t1 = y := ⟨_, rfl⟩
      have hyl : y < 4294967296 := by rw [← hy]; exact Nat.xor_lt_two_pow (n := 32) (by omega) hl1
      have e5 := xor32 (z / 16) t1 (by omega) hl1
      rw [hy, Int.natCast_ediv] at e5
      have e6 := and32 y hyl
      have e7 := HT.out (y % 16) (by omega)
      obtain ⟨t2, ht2⟩ : ∃ t, crcTab.getD (y % 16) 0 = t := ⟨_, rfl⟩
      have hl2 : t2 < 4294967296 := by rw [← ht2]; exact tab_lt _
      rw [ht2] at e7
      obtain ⟨v, hv⟩ : ∃ v, y / 16 ^^^ t2 = v := ⟨_, rfl⟩
      have hvl : v < 4294967296 := by rw [← hv]; exact Nat.xor_lt_two_pow (n := 32) (by omega) hl2
      have e8 := xor32 (y / 16) t2 (by omega) hl2
      rw [hv, Int.natCast_ediv] at e8
      have hnew : crcByte x (b : Int) = v := by
        unfold crcByte
        rw [Int.toNat_natCast, hz, crc8_tab, ht1, hy, ht2, hv]
      have hdrop : L.drop k = (b : Int) :: L.drop (k + 1) := by rw [drop_getD hlt, hbb]
      have HN : Hid (crcReg (L.drop (k + 1)) v = crcReg L 4294967295) := Lib.hid (by rw [← HR.out, hdrop, ← hnew]; rfl)
      replace e5 : Go.bits .xor .u32 ((z : Int) / 16) (t1 : Int) = (y : Int) := e5
      replace e8 : Go.bits .xor .u32 ((y : Int) / 16) (t2 : Int) = (v : Int) := e8
      clear hnew hdrop hz ht1 hy ht2 hv HR hbb
      go_wp2
      go_round
      case rel => exact ⟨k + 1, v, by omega, hvl, HN, rfl, by go_num⟩
      case measure => simp [intOf]; omega
    · obtain rfl : k = L.length := by omega
      have hr : crcReg L 4294967295 = x := by rw [← HR.out, List.drop_length]; rfl
      have HRR := Lib.hid hr
      have d1 : (L.length : Int) ≤ (L.length : Int) := by omega
      clear hr HR hlt
      have hres : Go.bits .xor .u32 IntKind.u32.max (x : Int) = crcI L := by
        have h := xor32 4294967295 x (by decide) hx
        unfold crcI crcN
        rw [HRR.out, Nat.xor_comm]
        exact h
      have HRES := Lib.hid hres
      clear hres
      go_wp2
      all_goals first
        | (exact absurd (by assumption : IntKind.u32.signed = true) (by decide))
        | (go_ret; exact ⟨by rw [← HRES.out]; rfl, rfl⟩)
end Go.Proofs.YtlnaeppbhjmocaaDoor
set_option linter.unusedSimpArgs false
set_option linter.unusedVariables false
namespace Go.Proofs.YtlnaeppbhjmocaaDoor.Reg
open Go Go.RowKit Go.Sort
theorem wpMainT_enter {P : Program} {ops : Array Oper} {S : World → Prop} {D : Nat} {Q : Exit → Act → World → Prop} {k : Nat} {rest : List Nat} {o : Oper} {fn : FuncId} {args : Array Value} {a : Act} {w : World} {R : Ending → World → Prop} (ho : ops[k]? = some o) (hw : Region.wanted o (yielded ops a.tmps) = true)
    (hr : (execOp a.eval o).run P w = .ok (.enter fn args) w) (hc : Calls P fn args w R) (h : ∀ e w', R e w' → ∃ v, e = .returned v ∧ (k = D ∨ S w') ∧ wpMainT P ops Q S D rest (a.put o.dst v) w') : wpMainT P ops Q S D (k :: rest) a w := by
  unfold wpMainT wpOp
  simp only [ho, hw, if_true]
  left
  unfold Oper.wp
  rw [hr, Oper.upon_enter]
  refine hc.mono fun e w' hR => ?_
  obtain ⟨v, rfl, hS, h'⟩ := h e w' hR
  exact ⟨hS, h'⟩
end Go.Proofs.YtlnaeppbhjmocaaDoor.Reg
namespace Go.Proofs.YtlnaeppbhjmocaaDoor
open Go.RowKit Go.Proofs Go.Proofs.YtlnaeppbhjmocaaDoorW.PrintWords Go.Proofs.YtlnaeppbhjmocaaDoorW.PrintMore

/-- a tree in memory, its lists the call's own -/
def TreeAt (w : World) (B : Nat) (v : Value) (lfs : List Lf) : Prop := ∃ a tv c, v = .slice a tv.length c ∧ tv.map Prod.fst = lfs ∧ w.ownsRow B 45 6 (.slice a tv.length c) tv.length (lflat tv) ∧ LO w B tv
theorem TreeAt.nil (w : World) (B : Nat) : TreeAt w B (.slice none 0 0) [] := ⟨none, [], 0, rfl, rfl, ⟨rfl, .inl ⟨rfl, rfl⟩⟩, LO.nil w B⟩
end Go.Proofs.YtlnaeppbhjmocaaDoor
set_option linter.unusedSimpArgs false
set_option linter.unusedVariables false
namespace Go.Proofs.YtlnaeppbhjmocaaDoor
open Go.ChangeShapes Go.WideShapes Go.ChangeAt Go.RowKit

/-! ### Bulk -/
section
variable {H : Type}
theorem bulk_pos (x : DataW H) : 1 ≤ Rows.uptoBulk x := by
  cases x with
  | lit l => cases l <;> simp [Rows.uptoBulk]
  | _ => simp [Rows.uptoBulk]
theorem bulk_len (es : List (DataW H)) : es.length ≤ Rows.uptoBulkAll es := by
  induction es with
  | nil => simp [Rows.uptoBulkAll]
  | cons x r ih => have := bulk_pos x; simp only [Rows.uptoBulkAll, List.length_cons]; omega
theorem bulk_get {es : List (DataW H)} {i : Nat} {e : DataW H} (h : es[i]? = some e) : Rows.uptoBulk e ≤ Rows.uptoBulkAll es := by
  induction es generalizing i with
  | nil => simp at h
  | cons x r ih =>
    cases i with
    | zero => simp at h; subst h; simp only [Rows.uptoBulkAll]; omega
    | succ i => have := ih (by simpa using h); simp only [Rows.uptoBulkAll]; omega
end

section
variable {H : Type} {enc : TypeId × Value → H} {w : World} {base : Nat} {sp : Nat → Bool} {held : Bool}

/-- a slice of structs of k cells -/
theorem open_rows {α : Type} [Inhabited α] {Ts e : TypeId} {k : Nat} (f : α → List Value) (hf : ∀ a, (f a).length = k) (hk : 0 < k) (ht : Tryd.prog.underlying Ts = some (.slice e)) (hc : Tryd.prog.cellsOf e = k) (Q : α → DataW H → Prop)
    (hopen : ∀ {fuel : Nat} {cs : List Value} {x : DataW H × List MemPlace}, DataW.trod enc Tryd.prog w base sp held fuel e cs = some x → ∃ a, Q a x.1 ∧ cs = f a)
    {fuel : Nat} {cs : List Value} {x : DataW H × List MemPlace} (h : DataW.trod enc Tryd.prog w base sp held fuel Ts cs = some x) :
    ∃ (l : List α) (A : Option Addr) (c : Nat), cs = [.slice A l.length c] ∧ Row w A k (l.map f) ∧ l.length ≤ c ∧ (A = none → c = 0) ∧ l.length ≤ Rows.uptoBulk x.1 ∧ ∀ a ∈ l, ∃ d, Q a d ∧ Rows.uptoBulk d ≤ Rows.uptoBulk x.1 := by
  rcases Deep.open_slice ht h with ⟨rfl, rfl⟩ | ⟨ad, len, cap, m, n, D, Pl, rfl, hb, hl, hm, hmm, rfl, hx⟩
  · exact ⟨[], none, 0, rfl, .inl rfl, Nat.le_refl _, fun _ => rfl, by simp, fun a ha => by cases ha⟩
  rw [hc] at hx
  have hle : len ≤ m := by rw [hmm]; split <;> omega
  have key : ∀ i, i < len → ∃ a : α, Q a (D i) ∧ w.cells? base (ad.add (i * k)) k = some (f a) := fun i hi => by
    obtain ⟨cs', h1, h2⟩ := hx i (by omega)
    obtain ⟨a, ha, rfl⟩ := hopen h2
    exact ⟨a, ha, h1⟩
  clear hx
  obtain ⟨F, hF⟩ := Deep.choose_lt (α := α) (p := fun i a => Q a (D i) ∧ w.cells? base (ad.add (i * k)) k = some (f a)) key
  have hbulk : Rows.uptoBulkAll ((List.range len).map D) ≤ Rows.uptoBulk (DataW.slice ((List.range len).map D) ((List.range (m - len)).map fun j => D (len + j))) := by
    simp only [Rows.uptoBulk]; omega
  refine ⟨(List.range len).map F, some ad, cap, by simp, ?_, by simpa using hl, (fun e => by cases e), ?_, ?_⟩
  · cases len with
    | zero => exact .inl rfl
    | succ len =>
      right
      have cellsF : ∀ i, i < len + 1 → ∀ j, j < k → w.cell? (ad.add (i * k + j)) = (f (F i))[j]? := fun i hi j hj => by
        have := (World.cells?_some (hF i hi).2).2.2 j hj
        rwa [Deep.add_add] at this
      obtain ⟨b, o, spot⟩ := ad
      have h0 := cellsF 0 (by omega) 0 hk
      obtain ⟨v0, hv0⟩ : ∃ v, (f (F 0))[0]? = some v := ⟨_, List.getElem?_eq_getElem (by rw [hf]; exact hk)⟩
      rw [hv0] at h0
      have hspot : spot = none := by simpa [Addr.add] using World.cell?_spot h0
      subst hspot
      refine ⟨b, o, rfl, by simpa [Addr.add] using World.block_lt_of_cell? w _ h0, fun i c hi j v hj hv => ?_⟩
      have hi' : i < len + 1 := by have := (List.getElem?_eq_some_iff.1 hi).1; simpa using this
      have hce : c = f (F i) := by
        simp only [List.getElem?_map, List.getElem?_range hi', Option.map_some, Option.some.injEq] at hi
        exact hi.symm
      subst hce
      have := cellsF i hi' j hj
      rw [Lib.add_plain, hv] at this
      rw [Nat.add_assoc]; exact this
  · have := bulk_len ((List.range len).map D)
    simp only [List.length_map, List.length_range] at this ⊢
    omega
  · intro a ha
    obtain ⟨i, hi, rfl⟩ := List.mem_map.1 ha
    have hi' : i < len := by simpa using hi
    refine ⟨D i, (hF i hi').1, ?_⟩
    exact Nat.le_trans (bulk_get (es := (List.range len).map D) (i := i) (e := D i) (by simp [hi'])) hbulk
end

theorem open_u8s {H : Type} {enc : TypeId × Value → H} {w : World} {base : Nat} {sp : Nat → Bool} {held : Bool} {fuel : Nat} {cs : List Value} {x : DataW H × List MemPlace} (h : DataW.trod enc Tryd.prog w base sp held fuel 22 cs = some x) :
    ∃ (L : List Int) (A : Option Addr) (c : Nat), cs = [.slice A L.length c] ∧ BytesAt w A L ∧ bytesOk L ∧ L.length ≤ c ∧ (A = none → c = 0) ∧ L.length ≤ Rows.uptoBulk x.1 := by
  have hc1 : Tryd.prog.cellsOf 5 = 1 := by kernel_rfl
  obtain ⟨L, A, c, h1, hR, h3, h4, h5, h6⟩ := open_rows (fun a : Int => [Value.int .u8 a]) (fun _ => rfl) (by decide) Tryd.underlying22 hc1 (fun a _ => 0 ≤ a ∧ a ≤ 255)
    (fun h => by
      obtain ⟨a, e0, rfl, w0⟩ := DataW.trod_int Tryd.underlying5 h
      refine ⟨a, ?_, e0⟩
      have := w0
      simp [Lit.wf, IntKind.min, IntKind.max, IntKind.signed, IntKind.bits] at this
      omega) h
  refine ⟨L, A, c, h1, ?_, fun a ha => (h6 a ha).choose_spec.1, h3, h4, h5⟩
  rcases hR with h | ⟨g, o, rfl, hg, hc⟩
  · left; simpa using h
  · refine .inr ⟨g, o, rfl, hg, fun i a hi => ?_⟩
    have := hc i [.int .u8 a] (by simp [hi]) 0 (.int .u8 a) Nat.zero_lt_one rfl
    simpa using this

theorem tab_of_reads {P : Program} {w : World} {name : String} {k : IntKind} {zs : List Int} {g : Nat} {t e : TypeId} {n : Nat}
    (hg : P.globalNamed name = some g) (hty : (P.globals[g]?).map (·.type) = some t) (ht : P.underlying t = some (.array n e)) (he : P.underlying e = some (.int k)) (hce : P.cellsOf e = 1) (hct : P.cellsOf t = n)
    (h : Lib.VarReads P w name (Lib.tabData k zs)) : Lib.TabIs P w name k zs := by
  obtain ⟨g', t', cs, fuel, p, hg', ht', hvar, hd⟩ := h
  obtain rfl := Option.some.inj (hg.symm.trans hg')
  obtain rfl := Option.some.inj (hty.symm.trans ht')
  unfold Lib.TabIs
  rw [hvar, ← Lib.cells_of_tab ht he hce hct hd]
theorem okFours {w : World} (h : Lib.VarReads Tryd.prog w "shale/words.fours" Rows.laid_shale_words_fours) : w.var? Tryd.prog "shale/words.fours" = some foursTab :=
  tab_of_reads gFours (t := 90) (e := 47) (n := 16) (k := .u32) (zs := crcTab.map fun n : Nat => (n : Int)) (by kernel_rfl) (by kernel_rfl) (by kernel_rfl) (by kernel_rfl) (by kernel_rfl) h
theorem sizeOf {W : World} (h : W.ShapedOpen Tryd.prog) : 4 ≤ W.heap.size := by
  have hs : (((begin Tryd.prog (fun _ _ => 0) default).world.heap[3]?).bind Obj.row?).isSome = true := by kernel_rfl
  obtain ⟨⟨zero, t⟩, h0⟩ := Option.isSome_iff_exists.1 hs
  obtain ⟨cs, hh, _⟩ := h.1 3 zero t (of_decide_eq_true (by kernel_rfl)) h0
  exact (Array.getElem?_eq_some_iff.1 hh).1
theorem own : ownKnob Tryd.prog.godebug = none := by kernel_rfl
theorem laidOut : laidOutB Tryd.prog = true := by kernel_rfl
end Go.Proofs.YtlnaeppbhjmocaaDoor
set_option linter.unusedSimpArgs false
set_option linter.unusedVariables false
namespace Go.Proofs.YtlnaeppbhjmocaaDoor
open Go.RowKit Go.Proofs

end Go.Proofs.YtlnaeppbhjmocaaDoor
set_option linter.unusedSimpArgs false
set_option linter.unusedVariables false
namespace Go.Proofs.YtlnaeppbhjmocaaDoor
open Go.RowKit Go.Proofs Go.Proofs.YtlnaeppbhjmocaaDoorW.PrintWords Go.Proofs.YtlnaeppbhjmocaaDoorW.PrintLast Go.Proofs.YtlnaeppbhjmocaaDoorW.PrintMore

/-- append of the call's own blocks: the row stays, or is a new one -/
def Ownish (w : World) (r r' : Option Nat) : Prop := r' = r ∨ ∃ k, r' = some k ∧ w.heap.size ≤ k
theorem grown_ish {a b c : World} {r r' : Option Nat} (h : a.grownBy b r) (k : b.grownBy c r') (hr : Ownish a r r') : a.grownBy c r := by
  rcases hr with e | ⟨x, e, hx⟩
  · subst e; exact grown_trans h k
  · subst e; exact grown_own h k (fun i hi => by injection hi with hi; omega)
theorem grown_none {a b : World} {r : Option Nat} (q : a.grownBy b none) : a.grownBy b r := ⟨q.os, q.tape, q.output, q.size, fun i hi _ => q.block i hi (by simp)⟩
theorem Ownish.step {a b : World} {r r' r'' : Option Nat} (h : Ownish a r r') (hs : a.heap.size ≤ b.heap.size) (k : r'' = r' ∨ r'' = some b.heap.size) : Ownish a r r'' := by
  rcases k with e | e
  · rw [e]; exact h
  · exact .inr ⟨_, e, hs⟩
set_option maxHeartbeats 3200000 in
set_option maxRecDepth 100000 in
theorem put_any (B : Nat) (A : Option Addr) (c : Nat) (xs : List Int) (x : Int) (n : Nat) (h0 : 0 ≤ x) (hx : x ≤ 18446744073709551615) (hn : n ≤ 8) (w : World) (hw : Ok w) (hO : OwnB w B (.slice A xs.length c) xs) (hB : B ≤ w.heap.size) (hl : xs.length ≤ 1099511627776) :
    Calls Tryd.prog 39 #[.slice A xs.length c, .int .u64 x, .int .i64 n] w fun e w' => ∃ a d, e = .returned (.slice a (xs ++ le x n).length d) ∧ OwnB w' B (.slice a (xs ++ le x n).length d) (xs ++ le x n) ∧ w.grownBy w' (Value.slice A xs.length c).ownBlock ∧ Ownish w (Value.slice A xs.length c).ownBlock (Value.slice a (xs ++ le x n).length d).ownBlock := by
  obtain ⟨iB, hiB, hzB, hsB, hyB⟩ := info_byte
  have HiB := Lib.hid hiB
  have HO := Lib.hid hO
  clear hiB hO
  go_enter Tryd.func39, Tryd.ntmps39
  go_wp2_with fail
  go_loopg [0, 1, 8] n (fun k v0 v1 v8 wc => ∃ (i : Nat) (y : Int) (zs : List Int) (a : Option Addr) (d : Nat), i + k = n ∧ v0 = .slice a zs.length d ∧ v1 = .int .u64 y ∧ v8 = .int .i64 i ∧ 0 ≤ y ∧ y ≤ 18446744073709551615 ∧ zs.length = xs.length + i ∧ Hid (zs ++ le y k = xs ++ le x n) ∧ Hid (OwnB wc B (.slice a zs.length d) zs) ∧ Hid (w.grownBy wc (Value.slice A xs.length c).ownBlock) ∧ Hid (Ownish w (Value.slice A xs.length c).ownBlock (Value.slice a zs.length d).ownBlock))
  case atStart => exact ⟨0, x, xs, A, c, by omega, rfl, rfl, rfl, h0, hx, by omega, Lib.hid rfl, HO, Lib.hid (grown_refl w _), Lib.hid (.inl rfl)⟩
  case round =>
    obtain ⟨i, y, zs, a, d, hik, rfl, rfl, rfl, hy0, hy1, hzl, HE, O, G, S⟩ := hrel
    cases gk with
    | zero =>
      obtain rfl : i = n := by omega
      have d1 : decide ((i : Int) < (i : Int)) = false := decide_eq_false (by omega)
      have he : zs = xs ++ le x i := by have := HE.out; simpa [le] using this
      subst he
      go_wp2
      go_ret
      exact ⟨a, d, rfl, O.out, G.out, S.out⟩
    | succ k =>
      have d1 : decide ((i : Int) < (n : Int)) = true := decide_eq_true (by omega)
      have w8 : IntKind.u8.wrap y = y % 256 := by rw [IntKind.wrap_u8]
      obtain ⟨w3, g3, hg3, hw3, q3, hz3, H3⟩ : ∃ w1 g, wr.heap.size = g ∧ wr.alloc (.cells #[.int .u8 (y % 256)] 5) = w1 ∧ wr.grownBy w1 none ∧ g < w1.heap.size ∧ w1.heap[g]? = some (.cells #[.int .u8 (y % 256)] 5 (0, 0)) :=
        ⟨_, _, rfl, rfl, ⟨rfl, rfl, rfl, by simp, fun j hj _ => heap_alloc_old wr _ hj⟩, by simp, heap_alloc_new wr _⟩
      have O3 : OwnB w3 B (.slice a zs.length d) zs := World.ownsRow.kept O.out q3 (by cases (Value.slice a zs.length d).ownBlock <;> simp)
      have hbw : B ≤ w3.heap.size := by have := G.out.size; have := q3.size; omega
      obtain ⟨v5, w5, hap, O5, q5, hob⟩ := append_src Tryd.underlying22 HiB.out hzB hsB hyB rfl (by decide) 22 O3 (some ⟨g3, 0, none⟩) 1 1 _ (Src.lit H3 1 1) (by simp) (by simp [Value.oneCell']) (by unfold maxLen; omega) (by omega) hbw
      have hO5 : OwnB w5 B v5 (zs ++ [y % 256]) := by unfold OwnB; rw [List.length_append, List.map_append]; simpa using O5
      obtain ⟨a5, d5, hv5⟩ := hO5.form
      subst hv5
      have HO5 := Lib.hid hO5
      have hgr : w.grownBy w5 (Value.slice A xs.length c).ownBlock := grown_ish (grown_trans G.out (grown_none q3)) q5 S.out
      clear O5 O3 hO5
      go_wp2_with (at_builtin; refine wpList_append_run rfl _ _ 22 22 rfl (by simp [Act.eval]) (by simp [Act.eval]) hap ?_)
      go_roundg k
      case measure => omega
      case rel =>
        refine ⟨i + 1, y / 256, zs ++ [y % 256], a5, d5, by omega, by simp [hzl], rfl, by go_num, by omega, by omega, by simp [hzl]; omega, Lib.hid ?_, HO5, Lib.hid hgr, Lib.hid ?_⟩
        · have := HE.out
          simp only [le] at this
          simpa using this
        · refine S.out.step ?_ hob
          have := G.out.size; have := q3.size; omega

end Go.Proofs.YtlnaeppbhjmocaaDoor
set_option linter.unusedSimpArgs false
set_option linter.unusedVariables false
namespace Go.Proofs.YtlnaeppbhjmocaaDoor
open Go.RowKit Go.Proofs Go.Proofs.YtlnaeppbhjmocaaDoorW.PrintWords Go.Proofs.YtlnaeppbhjmocaaDoorW.PrintLast Go.Proofs.YtlnaeppbhjmocaaDoorW.PrintMore

def PB (w : World) (g : Nat) (A : Option Addr) (c : Nat) (L : List Int) (i : Nat) : Prop := w.heap[g]? = some (.cells #[.slice A L.length c, .int .i64 i] 67 (0, 0))
theorem PB.fr {w w' : World} {g : Nat} {A : Option Addr} {c : Nat} {L : List Int} {i : Nat} (h : PB w g A c L i) (q : Fr w w') : PB w' g A c L i := q.heap h
theorem PB.grown {w w' : World} {g : Nat} {A : Option Addr} {c : Nat} {L : List Int} {i : Nat} {r : Option Nat} (h : PB w g A c L i) (q : w.grownBy w' r) (hne : some g ≠ r) : PB w' g A c L i := grown_blk' q h hne
end Go.Proofs.YtlnaeppbhjmocaaDoor
set_option linter.unusedSimpArgs false
set_option linter.unusedVariables false
namespace Go.Proofs.YtlnaeppbhjmocaaDoor
open Go.RowKit Go.Proofs Go.Proofs.YtlnaeppbhjmocaaDoorW.PrintWords Go.Proofs.YtlnaeppbhjmocaaDoorW.PrintMore

end Go.Proofs.YtlnaeppbhjmocaaDoor
set_option linter.unusedSimpArgs false
set_option linter.unusedVariables false
namespace Go.Proofs.YtlnaeppbhjmocaaDoor
open Go.RowKit Go.Proofs

end Go.Proofs.YtlnaeppbhjmocaaDoor
set_option linter.unusedSimpArgs false
set_option linter.unusedVariables false
namespace Go.Proofs.YtlnaeppbhjmocaaDoor
open Go.RowKit Go.Proofs

end Go.Proofs.YtlnaeppbhjmocaaDoor
set_option linter.unusedSimpArgs false
set_option linter.unusedVariables false
namespace Go.Proofs.YtlnaeppbhjmocaaDoor
open Go.RowKit Go.Proofs Go.Proofs.YtlnaeppbhjmocaaDoorW.PrintWords Go.Proofs.YtlnaeppbhjmocaaDoorW.PrintMore

theorem ib_zero : ∀ l : List UInt8, decide (Lib.indexByte l 0 < 0) = l.all fun c => c != 0
  | [] => rfl
  | b :: l => by
    have ih := ib_zero l
    unfold Lib.indexByte
    by_cases hb : b = 0
    · subst hb; simp
    · rw [List.all_cons, ← ih]
      have h1 : (b == 0) = false := by simpa using hb
      have h2 : (b != 0) = true := by simpa using hb
      have hge := Lib.indexByte_ge l 0
      rw [h2, h1, Bool.true_and, if_neg (by simp)]
      by_cases hm : Lib.indexByte l 0 = -1
      · rw [if_pos (by simpa using hm), hm]
      · rw [if_neg (by simpa using hm), decide_eq_false (by omega), decide_eq_false (by omega)]
theorem goodTarget_any (s : ByteArray) (w : World) : Calls Tryd.prog 64 #[.string s] w fun e w' => e = .returned (.bool (targetB s)) ∧ w' = w := by
  by_cases h1 : 1 ≤ s.size
  · by_cases h2 : s.size ≤ 127
    · have d1 : (1 : Int) ≤ s.size := by omega
      have d2 : (s.size : Int) ≤ 127 := by omega
      have hi := ib_zero s.data.toList
      have ht : targetB s = decide (Lib.indexByte s.data.toList 0 < 0) := by
        unfold targetB; rw [decide_eq_true ⟨h1, h2⟩, hi]; rfl
      have HT := Lib.hid ht
      clear hi ht
      go_enter Tryd.func64, Tryd.ntmps64
      go_wp2_with (go_at_call 77; refine (Tryd.strings_IndexByte s 0 _).mono ?_; rintro e wx ⟨rfl, rfl⟩)
      go_ret
      exact ⟨by rw [HT.out]; rfl, rfl⟩
    · have d1 : (1 : Int) ≤ s.size := by omega
      have d2 : (127 : Int) < s.size := by omega
      have ht : targetB s = false := by unfold targetB; rw [decide_eq_false (fun h => h2 h.2)]; rfl
      have HT := Lib.hid ht
      clear ht
      go_enter Tryd.func64, Tryd.ntmps64
      go_wp2_with fail
      go_ret
      exact ⟨by rw [HT.out]; rfl, rfl⟩
  · have d1 : (s.size : Int) < 1 := by omega
    have ht : targetB s = false := by unfold targetB; rw [decide_eq_false (fun h => h1 h.1)]; rfl
    have HT := Lib.hid ht
    clear ht
    go_enter Tryd.func64, Tryd.ntmps64
    go_wp2_with fail
    go_ret
    exact ⟨by rw [HT.out]; rfl, rfl⟩

theorem join_path : ∀ (l : List ByteArray), l ≠ [] → (47 : UInt8) :: Lib.join (l.map (·.data.toList)) [47] = l.flatMap fun n => slash :: n.data.toList
  | [n], _ => by simp [Lib.join, List.intercalate, slash]
  | n :: m :: r, _ => by
    have ih := join_path (m :: r) (by simp)
    rw [List.flatMap_cons, ← ih]
    simp [Lib.join, List.intercalate, slash]
end Go.Proofs.YtlnaeppbhjmocaaDoor
set_option linter.unusedSimpArgs false
set_option linter.unusedVariables false
namespace Go.Proofs.YtlnaeppbhjmocaaDoor
open Go.RowKit Go.Proofs Go.Proofs.YtlnaeppbhjmocaaDoorW.PrintWords Go.Proofs.YtlnaeppbhjmocaaDoorW.PrintMore


/-- names, a row of the call's own -/
def NO (w : World) (B : Nat) (v : Value) (ns : List ByteArray) : Prop := w.ownsRow B 9 1 v ns.length (ns.map Value.string)
theorem NO.fr {w w' : World} {B : Nat} {v : Value} {ns : List ByteArray} (h : NO w B v ns) (q : Fr w w') : NO w' B v ns := own_fr h q
theorem NO.keep {w w' : World} {B g : Nat} {v : Value} {ns : List ByteArray} (h : NO w B v ns) (q : w.grownBy w' (some g)) (hg : g < B) : NO w' B v ns := own_keep h q (fun k hk => by have := (World.ownsRow.lt h k hk).1; omega)
theorem NO.blk {w w' : World} {B g : Nat} {v : Value} {ns : List ByteArray} (h : NO w B v ns) (q : w.grownBy w' (some g)) {cs : Array Value} {t : TypeId} (H : w.heap[g]? = some (.cells cs t (0, 0))) (ht : 9 ≠ t) : NO w' B v ns := own_grown h q H ht
theorem NO.own {w w' : World} {B b s n : Nat} {v v2 : Value} {e : TypeId} {ns : List ByteArray} {xs : List Value} (h : NO w B v ns) (q : w.grownBy w' v2.ownBlock) (O : w.ownsRow b e s v2 n xs) (ht : 9 ≠ e) : NO w' B v ns := World.ownsRow.kept h q (own_ne2 h O ht)
theorem NO.low {w : World} {B B' : Nat} {v : Value} {ns : List ByteArray} (h : NO w B v ns) (hb : B' ≤ B) : NO w B' v ns := own_low h hb
theorem NO.nil (w : World) (B : Nat) : NO w B (.slice none 0 0) [] := ⟨by simp, .inl ⟨rfl, rfl⟩⟩
theorem NO.at {w : World} {B g c n : Nat} {ns : List ByteArray} (h : NO w B (.slice (some ⟨g, 0, none⟩) n c) ns) (i : Nat) (hi : i < ns.length) : w.cell? ⟨g, i, none⟩ = some (.string ns[i]) := by
  have hn : n = ns.length := by
    obtain ⟨a, c', he⟩ := own_form h
    injection he
  subst hn
  have := World.ownsRow.cells h (g := g) rfl i (.string ns[i]) (by simp [hi])
  rwa [Lib.add_plain, Nat.zero_add] at this
theorem NO.form {w : World} {B : Nat} {v : Value} {ns : List ByteArray} (h : NO w B v ns) : (v = .slice none 0 0 ∧ ns = []) ∨ ∃ g c, v = .slice (some ⟨g, 0, none⟩) ns.length c ∧ ns.length ≤ c ∧ B ≤ g ∧ g < w.heap.size := by
  rcases h.2 with ⟨hv, h0⟩ | ⟨g, cap, cur, hv, hb, hg, hn, _⟩
  · exact .inl ⟨hv, List.eq_nil_of_length_eq_zero h0⟩
  · exact .inr ⟨g, cap, hv, hn, hb, (Array.getElem?_eq_some_iff.1 hg).1⟩
end Go.Proofs.YtlnaeppbhjmocaaDoor
set_option linter.unusedSimpArgs false
set_option linter.unusedVariables false
namespace Go.Proofs.YtlnaeppbhjmocaaDoor
open Go.RowKit Go.Proofs Go.Proofs.YtlnaeppbhjmocaaDoorW.PrintWords Go.Proofs.YtlnaeppbhjmocaaDoorW.PrintMore

end Go.Proofs.YtlnaeppbhjmocaaDoor
set_option linter.unusedSimpArgs false
set_option linter.unusedVariables false
namespace Go.Proofs.YtlnaeppbhjmocaaDoor
open Go.RowKit Go.Proofs Go.Proofs.YtlnaeppbhjmocaaDoorW.PrintWords Go.Proofs.YtlnaeppbhjmocaaDoorW.PrintMore

end Go.Proofs.YtlnaeppbhjmocaaDoor
set_option linter.unusedSimpArgs false
set_option linter.unusedVariables false
namespace Go.Proofs.YtlnaeppbhjmocaaDoor
open Go.RowKit Go.Proofs

end Go.Proofs.YtlnaeppbhjmocaaDoor
set_option linter.unusedSimpArgs false
set_option linter.unusedVariables false
namespace Go.Proofs.YtlnaeppbhjmocaaDoor
open Go.RowKit Go.Proofs Go.Proofs.YtlnaeppbhjmocaaDoorW.PrintWords Go.Proofs.YtlnaeppbhjmocaaDoorW.PrintMore

theorem head_row {w : World} (h : Ok w) : ∃ w1 g, w.heap.size = g ∧ (convert 22 22 (.slice (some ⟨g, 0, none⟩) 5 5)).run Tryd.prog (w.alloc (.cells #[.int .u8 80, .int .u8 82, .int .u8 67, .int .u8 76, .int .u8 1] 5)) = .ok (.slice (some ⟨g, 0, none⟩) 5 5) w1 ∧ Fr w w1 ∧ g < w1.heap.size ∧ w1.heap[g]? = some (.cells #[.int .u8 80, .int .u8 82, .int .u8 67, .int .u8 76, .int .u8 1] 5 (5, 6)) :=
  ⟨_, _, rfl, Lib.run_convert_bytes_const (P := Tryd.prog) w 22 5 #[.int .u8 80, .int .u8 82, .int .u8 67, .int .u8 76, .int .u8 1] 5 5 Tryd.underlying22 Tryd.underlying5, (Fr.refl h).alloc _, by simp, heap_alloc_new w _⟩
theorem fr_of_grown {w w' : World} (h : Ok w) (q : w.grownBy w' none) : Fr w w' := Fr.of h ⟨q.os, q.tape, q.output, q.size, fun k hk => q.block k hk (by simp)⟩

end Go.Proofs.YtlnaeppbhjmocaaDoor
set_option linter.unusedSimpArgs false
set_option linter.unusedVariables false
namespace Go.Proofs.YtlnaeppbhjmocaaDoor
open Go.RowKit Go.Proofs Go.Proofs.YtlnaeppbhjmocaaDoorW.PrintWords Go.Proofs.YtlnaeppbhjmocaaDoorW.PrintMore

def full70 (L : List Int) : List Int := L ++ List.replicate 70 92
set_option maxHeartbeats 3200000 in
set_option maxRecDepth 100000 in
theorem roomy_any (A : Option Addr) (c : Nat) (L : List Int) (hc : L.length ≤ c) (hL : L.length ≤ 1073741824) (w : World) (hw : Ok w) (hA : BytesAt w A L) (hAc : A = none → c = 0) :
    Calls Tryd.prog 14 #[.slice A L.length c] w fun e w' => ∃ a d, e = .returned (.slice a (full70 L).length d) ∧ OwnB w' w.heap.size (.slice a (full70 L).length d) (full70 L) ∧ Fr w w' := by
  obtain ⟨iB, hiB, hzB, hsB, hyB⟩ := info_byte
  have HiB := Lib.hid hiB
  obtain ⟨w1, hmk, O1, q1⟩ := run_make_own (P := Tryd.prog) (w := w) w.heap.size 22 5 iB (.int .u8 0) 1 Tryd.underlying22 hiB hzB hsB .i64 .i64 (L.length + 70) (by rw [hyB]; omega) (by unfold maxLen; omega) (Nat.le_refl _)
  have f1 := fr_of_grown hw q1
  obtain ⟨v2, w2, hap, O2, q2, hob⟩ := append_src Tryd.underlying22 hiB hzB hsB hyB rfl (by decide) 22 O1 A L.length c _ (bytes_src (hA.fr f1) hAc) (by simp) (map_one L) (by unfold maxLen; omega) (by omega) f1.size
  have f2 := f1.row hw q2 (own_base' O1)
  have hO2 : OwnB w2 w.heap.size v2 L := by unfold OwnB; simpa using O2
  obtain ⟨a2, d2, hv2⟩ := hO2.form
  subst hv2
  have wl : IntKind.i64.wrap ((L.length : Int) + 70) = (L.length : Int) + 70 := IntWalk.i64_in _ ⟨by omega, by omega⟩
  have HO2 := Lib.hid hO2
  have HF2 := Lib.hid f2
  have hmk2 : (Instr.makeSlice 22 (.int .i64 0) (.int .i64 ((L.length : Int) + 70))).run Tryd.prog w = .ok (.slice (some ⟨w.heap.size, 0, none⟩) 0 (L.length + 70)) w1 := by
    have : ((L.length + 70 : Nat) : Int) = (L.length : Int) + 70 := by omega
    rw [← this]; exact hmk
  clear hmk O1 q1 f1 O2 q2 hob f2 hO2 hiB hA
  go_enter Tryd.func14, Tryd.ntmps14
  go_wp2_with (at_builtin; refine wpList_append_run rfl _ _ 22 22 rfl (by simp [Act.eval]) (by simp [Act.eval]) hap ?_)
  clear hap hmk2
  go_loopg [3, 4] 70 (fun k v3 v4 wc => ∃ (i : Nat) (a : Option Addr) (d : Nat), i + k = 70 ∧ v3 = .slice a (L.length + i) d ∧ v4 = .int .i64 i ∧ Hid (OwnB wc w.heap.size (.slice a (L.length + i) d) (L ++ List.replicate i 92)) ∧ Hid (Fr w wc))
  case atStart => exact ⟨0, a2, d2, rfl, rfl, rfl, Lib.hid (by simpa using HO2.out), HF2⟩
  case round =>
    clear HO2 HF2
    obtain ⟨i, a, d, hik, rfl, rfl, O, f⟩ := hrel
    cases gk with
    | zero =>
      obtain rfl : i = 70 := by omega
      go_wp2
      go_ret
      exact ⟨a, d, by unfold full70; simp, by have := O.out; unfold full70; simpa using this, f.out⟩
    | succ k =>
      have d1 : decide ((i : Int) < 70) = true := decide_eq_true (by omega)
      obtain ⟨w3, g3, hg3, hw3, f3, hz3, H3⟩ := boxedN f.out.ok #[.int .u8 92] 5
      have O3 := O.out.fr f3
      have O3' : w3.ownsRow w.heap.size 5 1 (.slice a (L.length + i) d) (L.length + i) ((L ++ List.replicate i 92).map (Value.int .u8)) := by
        have := O3; unfold OwnB at this; rwa [show (L ++ List.replicate i (92 : Int)).length = L.length + i by simp] at this
      obtain ⟨v5, w5, hap, O5, q5, hob⟩ := append_src Tryd.underlying22 HiB.out hzB hsB hyB rfl (by decide) 22 O3' (some ⟨g3, 0, none⟩) 1 1 _ (Src.lit H3 1 1) (by simp) (by simp [Value.oneCell']) (by unfold maxLen; omega) (by omega) (f.out.trans f3).size
      obtain ⟨a5, d5, hv5⟩ := own_form O5
      subst hv5
      have hO5 : Hid (OwnB w5 w.heap.size (.slice a5 (L.length + (i + 1)) d5) (L ++ List.replicate (i + 1) 92)) := Lib.hid (by
        unfold OwnB
        rw [show (L ++ List.replicate (i + 1) (92 : Int)).length = L.length + i + 1 by simp; omega, List.replicate_succ', ← List.append_assoc, List.map_append]
        exact O5)
      have F5 := Lib.hid ((f.out.trans f3).row hw q5 (own_base' O3'))
      clear O3 O3' O5 q5 hob f3 H3
      go_wp2_with (at_builtin; refine wpList_append_run rfl _ _ 22 22 rfl (by simp [Act.eval]) (by simp [Act.eval]) hap ?_)
      go_roundg k
      case measure => omega
      case rel => exact ⟨i + 1, a5, d5, by omega, rfl, by go_num, hO5, F5⟩

theorem same_true {w : World} (hw : Ok w) {A A' : Option Addr} {c c' : Nat} {xs : List Int} (h : BytesAt w A xs) (h' : BytesAt w A' xs) (hc : xs.length ≤ c) (hc' : xs.length ≤ c') (hL : xs.length ≤ 1099511627776) :
    Calls Tryd.prog 22 #[.slice A xs.length c, .slice A' xs.length c'] w fun e w' => e = .returned (.bool true) ∧ Fr w w' := by
  refine (Psame.shalelaw18_same.calls A c xs A' c' xs true w (h.toC (by omega)) hc (h'.toC (by omega)) hc' ?_).mono fun e w' ⟨he, hb⟩ => ⟨he, Fr.of hw hb.below⟩
  unfold Psame.shalelaw18_same.f
  simp
theorem no_any (x : Int) (w : World) (hw : Ok w) : Calls Tryd.prog 16 #[.int .i64 x] w fun e w' => e = .returned (.int .i64 x) ∧ Fr w w' :=
  (Pno.shalelaw18_no.calls x x w rfl).mono fun e w' ⟨he, hb⟩ => ⟨he, Fr.of hw hb.below⟩
set_option maxHeartbeats 3200000 in
set_option maxRecDepth 100000 in
theorem kept_true (g c : Nat) (A : Option Addr) (c' : Nat) (L : List Int) (hc : L.length + 70 ≤ c) (hc' : L.length ≤ c') (hL : L.length ≤ 1073741824) (w : World) (hw : Ok w) (hF : BytesAt w (some ⟨g, 0, none⟩) (full70 L)) (hA : BytesAt w A L) :
    Calls Tryd.prog 18 #[.slice (some ⟨g, 0, none⟩) (L.length + 70) c, .slice A L.length c'] w fun e w' => e = .returned (.bool true) ∧ Fr w w' := by
  have hl : (full70 L).length = L.length + 70 := by simp [full70]
  have hsub : BytesAt w (some ⟨g, 0, none⟩) L := by
    have := hF.sub 0 L.length
    simpa [full70] using this
  have HS := Lib.hid (same_true (c := c) (c' := c') hw hsub hA (by omega) hc' (by omega))
  have HC : Hid (∀ j, L.length ≤ j → j < L.length + 70 → w.cell? ⟨g, j, none⟩ = some (.int .u8 92)) := Lib.hid (fun j h1 h2 => by
    have := bytes_cell hF j (by omega)
    rw [Nat.zero_add] at this
    rw [this]
    have hv : (full70 L).getD j 0 = 92 := by
      unfold full70
      rw [List.getD_eq_getElem?_getD, List.getElem?_append_right h1, List.getElem?_replicate, if_pos (by omega)]
      rfl
    rw [hv])
  have wl : IntKind.i64.wrap ((L.length : Int) + 70) = (L.length : Int) + 70 := IntWalk.i64_in _ ⟨by omega, by omega⟩
  have d1 : (((L.length + 70 : Nat) : Int) != (L.length : Int) + 70) = false := by
    rw [show ((L.length + 70 : Nat) : Int) = (L.length : Int) + 70 by omega]; exact bne_self_eq_false _
  have d2 : (((L.length : Int) + 70) != (L.length : Int) + 70) = false := bne_self_eq_false _
  have s0 : (0 : Int) ≤ (L.length : Int) := by omega
  have s1 : (L.length : Int) ≤ (c : Int) := by omega
  clear hF hA hsub
  go_enter Tryd.func18, Tryd.ntmps18
  go_wp2_with (go_at_call 22; refine HS.out.mono ?_; rintro e wx ⟨rfl, q⟩; have HQ := Lib.hid q; clear q)
  go_loop [5] (fun v5 => ∃ i : Nat, L.length ≤ i ∧ i ≤ L.length + 70 ∧ v5 = .int .i64 i) (fun v5 => L.length + 70 - (intOf v5).toNat)
  case atStart => exact ⟨L.length, Nat.le_refl _, by omega, rfl⟩
  case round =>
    obtain ⟨i, hi0, hi1, rfl⟩ := hrel
    by_cases hlt : i < L.length + 70
    · have hcell := HQ.out.cell (HC.out i hi0 hlt)
      have d3 : (i : Int) < ((L.length + 70 : Nat) : Int) := by omega
      have d4 : (0 : Int) ≤ (i : Int) := by omega
      have d5 : decide ((i : Int) < ((L.length + 70 : Nat) : Int)) = true := decide_eq_true d3
      clear wl d1 d2
      go_wp2
      go_round
      case rel => exact ⟨i + 1, by omega, by omega, by go_num⟩
      case measure => simp [intOf]; omega
    · have d3 : ((L.length + 70 : Nat) : Int) ≤ (i : Int) := by omega
      clear wl d1 d2
      go_wp2
      go_ret
      exact ⟨rfl, HQ.out⟩

/-! ### Two trees of the same leaves -/
def toS (p : Lf × Value) : Palike.S45 := ⟨p.1.path, p.1.ty, p.1.mode, p.1.stamp, p.1.data, p.1.tgt⟩
def toS1 (l : Lf) : Palike.S45 := ⟨l.path, l.ty, l.mode, l.stamp, l.data, l.tgt⟩
theorem leaf_same (x : Palike.S45) : Palike.shalelaw18_leaf.f x.f0 x.f1 x.f2 x.f3 x.f4 x.f5 x.f0 x.f1 x.f2 x.f3 x.f4 x.f5 = some true := by
  unfold Palike.shalelaw18_leaf.f
  simp [Palike.shalelaw18_same.f]
theorem alike_l0 (l : List Palike.S45) (hl : l.length ≤ 1099511627776) : ∀ (d i : Nat), i + d = l.length → Palike.shalelaw18_alike.l0 (d + 1) l l (i : Int) = some true := by
  intro d
  induction d with
  | zero =>
    intro i hi
    simp only [Palike.shalelaw18_alike.l0]
    rw [if_neg (by omega)]
  | succ d ih =>
    intro i hi
    have e3 : wrap64 ((i : Int) + 1) = ((i + 1 : Nat) : Int) := by rw [wr64 ⟨by omega, by omega⟩]; omega
    obtain ⟨D, hD⟩ : ∃ D, d + 1 = D := ⟨_, rfl⟩
    rw [hD]
    simp only [Palike.shalelaw18_alike.l0]
    rw [if_pos (by omega), if_pos (by omega), if_pos (by omega), leaf_same, Option.bind_some, if_pos rfl, e3, ← hD]
    exact ih (i + 1) (by omega)
theorem alike_f (l : List Palike.S45) (hl : l.length ≤ 1099511627776) : Palike.shalelaw18_alike.f (l.length + 1) l l = some true := by
  unfold Palike.shalelaw18_alike.f
  rw [if_pos rfl]
  exact alike_l0 l hl l.length 0 (by omega)
end Go.Proofs.YtlnaeppbhjmocaaDoor
set_option linter.unusedSimpArgs false
set_option linter.unusedVariables false
namespace Go.Proofs.YtlnaeppbhjmocaaDoor
open Go.RowKit Go.Proofs Go.Proofs.YtlnaeppbhjmocaaDoorW.PrintWords Go.Proofs.YtlnaeppbhjmocaaDoorW.PrintLast Go.Proofs.YtlnaeppbhjmocaaDoorW.PrintMore

/-- where the next hole begins and ends, from a place i on at which 'run' bytes 0 have come -/
def nhL : List Int → Nat → Nat → Nat × Nat
  | [], run, i => if 16 ≤ run then (i - run, i) else (i, i)
  | x :: r, run, i => if x = 0 then nhL r (run + 1) (i + 1) else if 16 ≤ run then (i - run, i) else nhL r 0 (i + 1)
theorem nhL_bounds (l : List Int) : ∀ (run i : Nat), run ≤ i → i - run ≤ (nhL l run i).1 ∧ (nhL l run i).1 ≤ (nhL l run i).2 ∧ i ≤ (nhL l run i).2 ∧ (nhL l run i).2 ≤ i + l.length ∧ (run < 16 → l ≠ [] → i < (nhL l run i).2) := by
  induction l with
  | nil =>
    intro run i hr
    rw [nhL]
    split
    · refine ⟨Nat.le_refl _, by show i - run ≤ i; omega, Nat.le_refl _, by simp, fun h => by omega⟩
    · refine ⟨by show i - run ≤ i; omega, Nat.le_refl _, Nat.le_refl _, by simp, fun _ h => absurd rfl h⟩
  | cons x r ih =>
    intro run i hr
    rw [nhL, List.length_cons]
    split
    · obtain ⟨h1, h2, h3, h4, _⟩ := ih (run + 1) (i + 1) (by omega)
      exact ⟨by omega, h2, by omega, by omega, fun _ _ => by omega⟩
    · split
      · refine ⟨Nat.le_refl _, by show i - run ≤ i; omega, Nat.le_refl _, by show i ≤ _; omega, fun h => by omega⟩
      · obtain ⟨h1, h2, h3, h4, _⟩ := ih 0 (i + 1) (by omega)
        exact ⟨by omega, h2, by omega, by omega, fun _ _ => by omega⟩
theorem nh_val (l : List Int) (hl : l.length ≤ 1073741824) : ∀ (d i run : Nat), i + d = l.length → run ≤ i → PnextHole.parcel_nextHole.l0 (d + 1) l (run : Int) (i : Int) = some (((nhL (l.drop i) run i).1 : Int), ((nhL (l.drop i) run i).2 : Int)) := by
  intro d
  induction d with
  | zero =>
    intro i run hi hr
    have hd : l.drop i = [] := List.drop_eq_nil_of_le (by omega)
    rw [hd]
    simp only [PnextHole.parcel_nextHole.l0, nhL]
    rw [if_neg (by omega)]
    by_cases h16 : 16 ≤ run
    · rw [if_pos (by omega), if_pos h16, wr64 ⟨by omega, by omega⟩]
      congr 2 <;> omega
    · rw [if_neg (by omega), if_neg h16]
      congr 2 <;> omega
  | succ d ih =>
    intro i run hi hr
    have hlt : i < l.length := by omega
    have hd : l.drop i = l[i] :: l.drop (i + 1) := List.drop_eq_getElem_cons hlt
    have hrd : rd l (i : Int) = l[i] := by unfold rd; rw [Int.toNat_natCast]; simp [List.getD, hlt]
    have e3 : wrap64 ((i : Int) + 1) = ((i + 1 : Nat) : Int) := by rw [wr64 ⟨by omega, by omega⟩]; omega
    have e4 : wrap64 ((run : Int) + 1) = ((run + 1 : Nat) : Int) := by rw [wr64 ⟨by omega, by omega⟩]; omega
    obtain ⟨D, hD⟩ : ∃ D, d + 1 = D := ⟨_, rfl⟩
    rw [hD]
    simp only [PnextHole.parcel_nextHole.l0]
    rw [if_pos (by omega), if_pos (by omega), hrd, e3, e4, hd, ← hD, nhL]
    by_cases h0 : l[i] = 0
    · rw [if_pos h0, if_pos h0]
      exact ih (i + 1) (run + 1) (by omega) (by omega)
    · rw [if_neg h0, if_neg h0]
      by_cases h16 : 16 ≤ run
      · rw [if_pos (by omega), if_pos h16, wr64 ⟨by omega, by omega⟩]
        congr 2
        omega
      · rw [if_neg (by omega), if_neg h16]
        exact ih (i + 1) 0 (by omega) (by omega)
theorem nextHole_val (A : Option Addr) (c : Nat) (L : List Int) (i : Nat) (hi : i ≤ L.length) (hc : L.length ≤ c) (hL : L.length ≤ 1073741824) (w : World) (hw : Ok w) (hA : BytesAt w A L) :
    Calls Tryd.prog 79 #[.slice A L.length c, .int .i64 i] w fun e w' => e = .returned (.tuple #[.int .i64 (nhL (L.drop i) 0 i).1, .int .i64 (nhL (L.drop i) 0 i).2]) ∧ Fr w w' :=
  (PnextHole.parcel_nextHole.calls (L.length - i + 1) A c L i _ _ w (hA.toC (by omega)) hc (nh_val L hL (L.length - i) i 0 (by omega) (by omega))).mono fun e w' ⟨he, hd⟩ => ⟨he, Fr.of hw hd.below⟩

/-- the stretches from a place on: their kind (1 bytes, 0 a hole), place, size -/
def stretS (L : List Int) : Nat → Nat → List (Nat × Nat × Nat)
  | 0, _ => []
  | k + 1, i => if i < L.length then
      (if i < (nhL (L.drop i) 0 i).1 then [(1, i, (nhL (L.drop i) 0 i).1 - i)] else []) ++
      ((if (nhL (L.drop i) 0 i).1 < (nhL (L.drop i) 0 i).2 then [(0, (nhL (L.drop i) 0 i).1, (nhL (L.drop i) 0 i).2 - (nhL (L.drop i) 0 i).1)] else []) ++ stretS L k (nhL (L.drop i) 0 i).2) else []
def stretX (L : List Int) : List (Nat × Nat × Nat) := stretS L L.length 0
theorem stretS_more (L : List Int) : ∀ (k m i : Nat), L.length ≤ i + k → L.length ≤ i + m → stretS L k i = stretS L m i := by
  intro k
  induction k with
  | zero =>
    intro m i h1 h2
    cases m with
    | zero => rfl
    | succ m => rw [stretS, stretS, if_neg (by omega)]
  | succ k ih =>
    intro m i h1 h2
    cases m with
    | zero => rw [stretS, stretS, if_neg (by omega)]
    | succ m =>
      rw [stretS, stretS]
      by_cases hi : i < L.length
      · have hb := (nhL_bounds (L.drop i) 0 i (by omega)).2.2.2.2 (by omega) (fun e => by have := congrArg List.length e; simp at this; omega)
        rw [if_pos hi, if_pos hi, ih m _ (by omega) (by omega)]
      · rw [if_neg hi, if_neg hi]
end Go.Proofs.YtlnaeppbhjmocaaDoor
set_option linter.unusedSimpArgs false
set_option linter.unusedVariables false
namespace Go.Proofs.YtlnaeppbhjmocaaDoor
open Go.RowKit Go.Proofs

theorem lead0_le (l : List Int) : lead0 l ≤ l.length := by
  induction l with
  | nil => simp [lead0]
  | cons x r ih => rw [lead0]; split <;> simp <;> omega
theorem lead0_drop (l : List Int) : l.drop (lead0 l) = [] ∨ ∃ x r, l.drop (lead0 l) = x :: r ∧ x ≠ 0 := by
  induction l with
  | nil => simp [lead0]
  | cons x r ih =>
    rw [lead0]
    split
    · exact ih
    · exact .inr ⟨x, r, rfl, by assumption⟩
/-- nextHole over the zeros that come first -/
theorem nhL_lead (l : List Int) : ∀ run i, nhL l run i = nhL (l.drop (lead0 l)) (run + lead0 l) (i + lead0 l) := by
  induction l with
  | nil => intro run i; simp [lead0]
  | cons x r ih =>
    intro run i
    rw [lead0]
    by_cases h : x = 0
    · rw [if_pos h, nhL, if_pos h, ih, List.drop_succ_cons]
      congr 1 <;> omega
    · rw [if_neg h]; rfl
theorem nhL_hole (l : List Int) (i : Nat) (h : 16 ≤ lead0 l) : nhL l 0 i = (i, i + lead0 l) := by
  rw [nhL_lead, Nat.zero_add]
  rcases lead0_drop l with e | ⟨x, r, e, hx⟩
  · rw [e, nhL, if_pos h]; congr 1; omega
  · rw [e, nhL, if_neg hx, if_pos h]; congr 1; omega
theorem nhL_end (l : List Int) (i : Nat) (h : lead0 l < 16) (he : l.drop (lead0 l) = []) : nhL l 0 i = (i + lead0 l, i + lead0 l) := by
  rw [nhL_lead, Nat.zero_add, he, nhL, if_neg (by omega)]
theorem nhL_next (l : List Int) (i : Nat) (h : lead0 l < 16) {x : Int} {r : List Int} (he : l.drop (lead0 l) = x :: r) (hx : x ≠ 0) : nhL l 0 i = nhL r 0 (i + lead0 l + 1) := by
  rw [nhL_lead, Nat.zero_add, he, nhL, if_neg hx, if_neg (by omega)]
/-- the document's search of a filled stretch's end -/
def scanS (L : List Int) : Nat → Nat → Nat
  | 0, k => k
  | f + 1, k => if k < L.length then (if 16 ≤ lead0 (L.drop k) then k else scanS L f (if lead0 (L.drop k) = 0 then k + 1 else k + lead0 (L.drop k))) else k
def stretchS (L : List Int) (i : Nat) : Nat × Bool := if 16 ≤ lead0 (L.drop i) then (i + lead0 (L.drop i), true) else (scanS L (L.length - i) i, false)
theorem scanS_more (L : List Int) : ∀ (f g k : Nat), L.length ≤ k + f → L.length ≤ k + g → scanS L f k = scanS L g k := by
  intro f
  induction f with
  | zero =>
    intro g k h1 h2
    cases g with
    | zero => rfl
    | succ g => rw [scanS, scanS, if_neg (by omega)]
  | succ f ih =>
    intro g k h1 h2
    cases g with
    | zero => rw [scanS, scanS, if_neg (by omega)]
    | succ g =>
      rw [scanS, scanS]
      split
      · split
        · rfl
        · refine ih g _ ?_ ?_ <;> split <;> omega
      · rfl
/-- the document's end of a filled stretch is where the program's next hole begins -/
theorem scanS_nh (L : List Int) : ∀ (d f k : Nat), k + d = L.length → d ≤ f → scanS L f k = (nhL (L.drop k) 0 k).1 := by
  intro d
  induction d using Nat.strongRecOn with
  | _ d ih =>
  intro f k hd hf
  obtain ⟨Z, hZ⟩ : ∃ Z, lead0 (L.drop k) = Z := ⟨_, rfl⟩
  have hzl := lead0_le (L.drop k)
  rw [List.length_drop, hZ] at hzl
  cases f with
  | zero =>
    obtain rfl : d = 0 := by omega
    have e : L.drop k = [] := List.drop_eq_nil_of_le (by omega)
    rw [e, scanS, nhL, if_neg (by omega)]
  | succ f =>
    rw [scanS]
    by_cases hk : k < L.length
    · rw [if_pos hk, hZ]
      by_cases h16 : 16 ≤ Z
      · rw [if_pos h16, nhL_hole _ _ (by omega)]
      · rw [if_neg h16]
        rcases lead0_drop (L.drop k) with e | ⟨x, r, e, hx⟩
        · rw [hZ, List.drop_drop] at e
          have hlen : L.length ≤ k + Z := by
            have := congrArg List.length e
            simp at this; omega
          rw [nhL_end _ _ (by omega) (by rw [hZ, List.drop_drop]; exact e), hZ]
          rw [if_neg (by omega)]
          cases f with
          | zero => rw [scanS]
          | succ f => rw [scanS, if_neg (by omega)]
        · rw [nhL_next _ _ (by omega) e hx, hZ]
          rw [hZ, List.drop_drop] at e
          have hlen : k + Z < L.length := by
            have := congrArg List.length e
            simp at this; omega
          have hr : r = L.drop (k + Z + 1) := by
            rw [List.drop_eq_getElem_cons hlen] at e
            injection e with e1 e2
            exact e2.symm
          subst hr
          by_cases hz0 : Z = 0
          · subst hz0
            rw [if_pos rfl]
            exact ih (d - 1) (by omega) f (k + 1) (by omega) (by omega)
          · rw [if_neg hz0]
            have h1 := ih (d - Z) (by omega) f (k + Z) (by omega) (by omega)
            rw [h1]
            have hl0 : lead0 (L.drop (k + Z)) = 0 := by rw [e, lead0, if_neg hx]
            rw [nhL_next (L.drop (k + Z)) (k + Z) (by omega) (by rw [hl0]; exact e) hx, hl0]
    · rw [if_neg hk]
      have e : L.drop k = [] := List.drop_eq_nil_of_le (by omega)
      rw [e, nhL, if_neg (by omega)]
theorem stretchS_no (L : List Int) (i : Nat) (hi : i ≤ L.length) (h : lead0 (L.drop i) < 16) : stretchS L i = ((nhL (L.drop i) 0 i).1, false) := by
  unfold stretchS
  rw [if_neg (by omega), scanS_nh L (L.length - i) (L.length - i) i (by omega) (Nat.le_refl _)]
/-- where the next hole begins there are as many zeros as it is long, or the data ends -/
theorem nhL_at (L : List Int) : ∀ (d k : Nat), k + d = L.length → ((nhL (L.drop k) 0 k).1 = L.length ∧ (nhL (L.drop k) 0 k).2 = L.length) ∨ (16 ≤ lead0 (L.drop (nhL (L.drop k) 0 k).1) ∧ (nhL (L.drop k) 0 k).2 = (nhL (L.drop k) 0 k).1 + lead0 (L.drop (nhL (L.drop k) 0 k).1)) := by
  intro d
  induction d using Nat.strongRecOn with
  | _ d ih =>
  intro k hd
  have hzl := lead0_le (L.drop k)
  rw [List.length_drop] at hzl
  by_cases h16 : 16 ≤ lead0 (L.drop k)
  · rw [nhL_hole _ _ h16]
    exact .inr ⟨h16, rfl⟩
  · rcases lead0_drop (L.drop k) with e | ⟨x, r, e, hx⟩
    · rw [nhL_end _ _ (by omega) e]
      have := congrArg List.length e
      simp at this
      exact .inl ⟨by show k + _ = _; omega, by show k + _ = _; omega⟩
    · rw [nhL_next _ _ (by omega) e hx]
      rw [List.drop_drop] at e
      have hlen : k + lead0 (L.drop k) < L.length := by
        have := congrArg List.length e
        simp at this; omega
      have hr : r = L.drop (k + lead0 (L.drop k) + 1) := by
        rw [List.drop_eq_getElem_cons hlen] at e
        injection e with e1 e2
        exact e2.symm
      rw [hr]
      exact ih (d - (lead0 (L.drop k) + 1)) (by omega) _ (by omega)
/-- a stretch's bytes in a row -/
def stretB (L : List Int) (x : Nat × Nat × Nat) : List Int := (x.1 : Int) :: (le x.2.2 4 ++ if x.1 = 1 then (L.drop x.2.1).take x.2.2 else [])
/-- the document's cut of data, from a place on -/
def cutS (L : List Int) : Nat → Nat → List Int
  | 0, _ => []
  | f + 1, i => if i < L.length then (if (stretchS L i).2 then 0 else 1) :: (le (((stretchS L i).1 : Int) - (i : Int)) 4 ++ ((if (stretchS L i).2 then [] else (L.drop i).take ((stretchS L i).1 - i)) ++ cutS L f (stretchS L i).1)) else []
theorem nhL_gt (L : List Int) (i : Nat) (hi : i < L.length) (h : lead0 (L.drop i) < 16) : i < (nhL (L.drop i) 0 i).1 := by
  have hzl := lead0_le (L.drop i)
  rw [List.length_drop] at hzl
  rcases lead0_drop (L.drop i) with e | ⟨x, r, e, hx⟩
  · rw [nhL_end _ _ h e]
    have := congrArg List.length e
    simp at this
    show i < i + _
    omega
  · rw [nhL_next _ _ h e hx]
    have := (nhL_bounds r 0 (i + lead0 (L.drop i) + 1) (by omega)).1
    omega
theorem stretS_len (L : List Int) (f i : Nat) (hi : L.length ≤ i) : stretS L f i = [] := by
  cases f with
  | zero => rfl
  | succ f => rw [stretS, if_neg (by omega)]
theorem cutS_hole (L : List Int) (f i : Nat) (hi : i < L.length) (h : 16 ≤ lead0 (L.drop i)) : cutS L (f + 1) i = 0 :: (le (lead0 (L.drop i) : Nat) 4 ++ cutS L f (i + lead0 (L.drop i))) := by
  have hs : stretchS L i = (i + lead0 (L.drop i), true) := by unfold stretchS; rw [if_pos h]
  rw [cutS, if_pos hi, hs]
  simp only [if_true, List.nil_append]
  congr 3
  omega
theorem cutS_full (L : List Int) (f i : Nat) (hi : i < L.length) (h : lead0 (L.drop i) < 16) : cutS L (f + 1) i = 1 :: (le (((nhL (L.drop i) 0 i).1 - i : Nat) : Int) 4 ++ ((L.drop i).take ((nhL (L.drop i) 0 i).1 - i) ++ cutS L f (nhL (L.drop i) 0 i).1)) := by
  have hs := stretchS_no L i (by omega) h
  have hgt := nhL_gt L i hi h
  rw [cutS, if_pos hi, hs]
  simp only [Bool.false_eq_true, if_false]
  congr 3
  omega
theorem stretS_hole (L : List Int) (g i : Nat) (hi : i < L.length) (h : 16 ≤ lead0 (L.drop i)) : stretS L (g + 1) i = (0, i, lead0 (L.drop i)) :: stretS L g (i + lead0 (L.drop i)) := by
  rw [stretS, if_pos hi, nhL_hole _ _ h]
  dsimp only
  rw [if_neg (Nat.lt_irrefl i), if_pos (by omega), List.nil_append, List.singleton_append]
  congr 3
  omega
theorem cutS_end (L : List Int) (f i : Nat) (hi : L.length ≤ i) : cutS L f i = [] := by
  cases f with
  | zero => rfl
  | succ f => rw [cutS, if_neg (by omega)]
theorem cutS_eq (L : List Int) : ∀ (d f g i : Nat), i + d = L.length → d ≤ f → d ≤ g → cutS L f i = (stretS L g i).flatMap (stretB L) := by
  intro d
  induction d using Nat.strongRecOn with
  | _ d ih =>
  intro f g i hd hf hg
  by_cases hi : i < L.length
  · obtain ⟨f, rfl⟩ : ∃ m, f = m + 1 := ⟨f - 1, by omega⟩
    obtain ⟨g, rfl⟩ : ∃ m, g = m + 1 := ⟨g - 1, by omega⟩
    by_cases h16 : 16 ≤ lead0 (L.drop i)
    · have hl := lead0_le (L.drop i)
      rw [List.length_drop] at hl
      rw [cutS_hole L f i hi h16, stretS_hole L g i hi h16, List.flatMap_cons, ih (d - lead0 (L.drop i)) (by omega) f g _ (by omega) (by omega) (by omega)]
      simp [stretB]
    · have hgt := nhL_gt L i hi (by omega)
      rw [cutS_full L f i hi (by omega), stretS, if_pos hi, if_pos hgt]
      have hat := nhL_at L d i hd
      obtain ⟨p, hp⟩ : ∃ p, (nhL (L.drop i) 0 i).1 = p := ⟨_, rfl⟩
      obtain ⟨q, hq⟩ : ∃ q, (nhL (L.drop i) 0 i).2 = q := ⟨_, rfl⟩
      rw [hp, hq] at hat
      rw [hp] at hgt
      rw [hp, hq]
      rcases hat with ⟨h1, h2⟩ | ⟨h1, h2⟩
      · subst h1
        rw [if_neg (by omega), stretS_len L g q (by omega), cutS_end L f _ (Nat.le_refl _)]
        simp [stretB]
      · have hl := lead0_le (L.drop p)
        rw [List.length_drop] at hl
        obtain ⟨f, rfl⟩ : ∃ m, f = m + 1 := ⟨f - 1, by omega⟩
        rw [if_pos (by omega), cutS_hole L f p (by omega) h1, List.singleton_append, List.singleton_append, List.flatMap_cons, List.flatMap_cons, ← h2, ih (d - (p - i) - lead0 (L.drop p)) (by omega) f g q (by omega) (by omega) (by omega)]
        have e : q - p = lead0 (L.drop p) := by omega
        rw [e]
        simp [stretB]
  · rw [stretS_len L g i (by omega), cutS_end L f i (by omega)]
    rfl
theorem cutS_len (L : List Int) : ∀ (d f i : Nat), i + d = L.length → d ≤ f → (cutS L f i).length ≤ 6 * d := by
  intro d
  induction d using Nat.strongRecOn with
  | _ d ih =>
  intro f i hd hf
  by_cases hi : i < L.length
  · obtain ⟨f, rfl⟩ : ∃ m, f = m + 1 := ⟨f - 1, by omega⟩
    have hl := lead0_le (L.drop i)
    rw [List.length_drop] at hl
    by_cases h16 : 16 ≤ lead0 (L.drop i)
    · have := ih (d - lead0 (L.drop i)) (by omega) f (i + lead0 (L.drop i)) (by omega) (by omega)
      rw [cutS_hole L f i hi h16]
      simp only [List.length_cons, List.length_append, le_length]
      omega
    · have hgt := nhL_gt L i hi (by omega)
      have hb := nhL_bounds (L.drop i) 0 i (by omega)
      rw [List.length_drop] at hb
      have := ih (L.length - (nhL (L.drop i) 0 i).1) (by omega) f (nhL (L.drop i) 0 i).1 (by omega) (by omega)
      rw [cutS_full L f i hi (by omega)]
      simp only [List.length_cons, List.length_append, le_length, List.length_take, List.length_drop]
      omega
  · rw [cutS_end L f i (by omega)]; simp
theorem stretX_len (L : List Int) : ((stretX L).flatMap (stretB L)).length ≤ 6 * L.length := by
  unfold stretX
  rw [← cutS_eq L L.length L.length L.length 0 (by omega) (Nat.le_refl _) (Nat.le_refl _)]
  exact cutS_len L L.length L.length 0 (by omega) (Nat.le_refl _)
theorem stretS_mem (L : List Int) : ∀ (k i : Nat), i ≤ L.length → ∀ x ∈ stretS L k i, (x.1 = 0 ∨ x.1 = 1) ∧ x.2.1 + x.2.2 ≤ L.length ∧ 0 < x.2.2 := by
  intro k
  induction k with
  | zero => intro i _ x hx; simp [stretS] at hx
  | succ k ih =>
    intro i hi x hx
    rw [stretS] at hx
    split at hx
    · have hb := nhL_bounds (L.drop i) 0 i (by omega)
      rw [List.length_drop] at hb
      rcases List.mem_append.mp hx with h | h
      · split at h
        · obtain rfl := List.mem_singleton.mp h
          exact ⟨.inr rfl, by dsimp only; omega, by dsimp only; omega⟩
        · cases h
      · rcases List.mem_append.mp h with h | h
        · split at h
          · obtain rfl := List.mem_singleton.mp h
            exact ⟨.inl rfl, by dsimp only; omega, by dsimp only; omega⟩
          · cases h
        · exact ih _ (by omega) x h
    · cases hx
end Go.Proofs.YtlnaeppbhjmocaaDoor
namespace Go.Proofs.YtlnaeppbhjmocaaDoor
open Go.RowKit Go.Proofs
section
variable {α : Type} [DecidableEq α] (lt : α → α → Bool)
/-- how many names two paths share -/
def sharedX : List α → List α → Nat
  | x :: a, y :: b => if x = y then sharedX a b + 1 else 0
  | _, _ => 0
/-- does b come behind a in the order of trees -/
def behindX : List α → List α → Bool
  | _, [] => false
  | [], _ :: _ => true
  | x :: a, y :: b => if x = y then behindX a b else lt x y
/-- the program's test of a leaf behind another -/
def stepX (ahead : List α) (dir : Bool) (n : List α) : Bool :=
  behindX lt ahead n && decide (n.length - 1 ≤ sharedX ahead n) && (decide (n.length - 1 ≠ ahead.length) || dir)
def progT : List α → Bool → List (List α × Bool) → Bool
  | _, _, [] => true
  | ahead, dir, (n, d) :: r => stepX lt ahead dir n && progT n d r
def dirX (all : List (List α × Bool)) (l : List α) : Bool := all.any fun x => x.2 && decide (x.1 = l)
def refT (all : List (List α × Bool)) : List α → List (List α × Bool) → Bool
  | _, [] => true
  | ahead, (n, _) :: r => behindX lt ahead n && dirX all n.dropLast && refT all n r

theorem shared_le (a : List α) : ∀ b : List α, sharedX a b ≤ a.length ∧ sharedX a b ≤ b.length := by
  induction a with
  | nil => intro b; simp [sharedX]
  | cons x a ih =>
    intro b
    cases b with
    | nil => simp [sharedX]
    | cons y b =>
      simp only [sharedX]
      split
      · have := ih b; simp; omega
      · simp
theorem shared_take (a : List α) : ∀ (b : List α) (k : Nat), k ≤ sharedX a b → a.take k = b.take k := by
  induction a with
  | nil => intro b k h; simp [sharedX] at h; subst h; simp
  | cons x a ih =>
    intro b k h
    cases b with
    | nil => simp [sharedX] at h; subst h; simp
    | cons y b =>
      simp only [sharedX] at h
      split at h
      · rename_i hxy
        subst hxy
        cases k with
        | zero => simp
        | succ k => simp [ih b k (by omega)]
      · obtain rfl : k = 0 := by omega
        simp
theorem take_shared (a : List α) : ∀ (b : List α) (k : Nat), k ≤ a.length → k ≤ b.length → a.take k = b.take k → k ≤ sharedX a b := by
  induction a with
  | nil => intro b k h1 _ _; simp at h1; omega
  | cons x a ih =>
    intro b k h1 h2 h
    cases k with
    | zero => omega
    | succ k =>
      cases b with
      | nil => simp at h2
      | cons y b =>
        simp only [List.take_succ_cons, List.cons.injEq] at h
        simp only [sharedX, if_pos h.1]
        have := ih b k (by simp at h1; omega) (by simp at h2; omega) h.2
        omega
theorem behind_irr (a : List α) : behindX lt a a = false := by
  induction a with
  | nil => rfl
  | cons x a ih => simp [behindX, ih]
variable (irr : ∀ a, lt a a = false) (tr : ∀ a b c, lt a b = true → lt b c = true → lt a c = true)
include irr tr in
theorem behind_trans (a : List α) : ∀ b c : List α, behindX lt a b = true → behindX lt b c = true → behindX lt a c = true := by
  induction a with
  | nil =>
    intro b c h1 h2
    cases c with
    | nil => cases b <;> simp [behindX] at h2
    | cons z c => rfl
  | cons x a ih =>
    intro b c h1 h2
    cases b with
    | nil => simp [behindX] at h1
    | cons y b =>
      cases c with
      | nil => simp [behindX] at h2
      | cons z c =>
        simp only [behindX] at h1 h2 ⊢
        split at h1
        · rename_i hxy; subst hxy
          split at h2
          · rename_i hxz; subst hxz
            rw [if_pos rfl]; exact ih _ _ h1 h2
          · rename_i hxz; rw [if_neg hxz]; exact h2
        · rename_i hxy
          split at h2
          · rename_i hyz; subst hyz; rw [if_neg hxy]; exact h1
          · rename_i hyz
            have h3 := tr _ _ _ h1 h2
            by_cases hxz : x = z
            · subst hxz; rw [irr] at h3; cases h3
            · rw [if_neg hxz]; exact h3
include irr tr in
/-- what lies ahead of a path, and is a beginning of what comes behind it, is its beginning -/
theorem behind_pre (m : List α) : ∀ a n : List α, behindX lt m a = true ∨ m = a → behindX lt a n = true → n.take m.length = m → a.take m.length = m := by
  induction m with
  | nil => intro a n _ _ _; simp
  | cons x m ih =>
    intro a n h1 h2 h3
    cases n with
    | nil => simp [behindX] at h2
    | cons z n =>
      simp only [List.length_cons, List.take_succ_cons, List.cons.injEq] at h3
      obtain ⟨rfl, h3⟩ := h3
      cases a with
      | nil => simp [behindX] at h1
      | cons y a =>
        simp only [behindX, List.cons.injEq] at h1 h2
        by_cases hy : z = y
        · subst hy
          rw [if_pos rfl] at h1 h2
          simp only [List.length_cons, List.take_succ_cons, List.cons.injEq, true_and]
          exact ih a n (h1.imp id And.right) h2 h3
        · rw [if_neg hy] at h1
          rw [if_neg (fun e => hy e.symm)] at h2
          rcases h1 with h1 | h1
          · have := tr _ _ _ h1 h2; rw [irr] at this; cases this
          · exact absurd h1.1 hy
theorem behind_drop (n : List α) (h : n ≠ []) : behindX lt n.dropLast n = true := by
  induction n with
  | nil => exact absurd rfl h
  | cons x n ih =>
    cases n with
    | nil => rfl
    | cons y n => simp only [List.dropLast_cons_cons, behindX, if_true]; exact ih (by simp)
theorem behind_ne {a n : List α} (h : behindX lt a n = true) : n ≠ [] := fun e => by subst e; cases a <;> simp [behindX] at h
include irr tr in
theorem refT_all (all : List (List α × Bool)) : ∀ (r : List (List α × Bool)) (ahead : List α), refT lt all ahead r = true → ∀ x ∈ r, behindX lt ahead x.1 = true := by
  intro r
  induction r with
  | nil => intro ahead _ x hx; simp at hx
  | cons y r ih =>
    intro ahead h x hx
    obtain ⟨n, d⟩ := y
    simp only [refT, Bool.and_eq_true] at h
    rcases List.mem_cons.mp hx with e | e
    · subst e; exact h.1.1
    · exact behind_trans lt irr tr _ _ _ h.1.1 (ih n h.2 x e)
theorem prog_ref (all : List (List α × Bool)) : ∀ (r pre : List (List α × Bool)) (ahead : List α) (dir : Bool), all = pre ++ r → (ahead, dir) ∈ pre → (∀ k, k < ahead.length → (ahead.take k, true) ∈ pre) → progT lt ahead dir r = true → refT lt all ahead r = true := by
  intro r
  induction r with
  | nil => intro _ _ _ _ _ _ _; rfl
  | cons y r ih =>
    intro pre ahead dir hall hm hp h
    obtain ⟨n, d⟩ := y
    simp only [progT, stepX, Bool.and_eq_true, Bool.or_eq_true, decide_eq_true_eq] at h
    obtain ⟨⟨⟨hb, hs⟩, hd⟩, hr⟩ := h
    have hne := behind_ne lt hb
    have hlen : 0 < n.length := List.length_pos_iff.mpr hne
    have hsl := shared_le ahead n
    have htk := shared_take ahead n (n.length - 1) hs
    have hnew : ∀ k, k < n.length → (n.take k, true) ∈ pre := by
      intro k hk
      have e : n.take k = ahead.take k := (shared_take ahead n k (by omega)).symm
      rw [e]
      by_cases hka : k < ahead.length
      · exact hp k hka
      · have hk2 : k = ahead.length := by omega
        have hk3 : n.length - 1 = ahead.length := by omega
        rcases hd with hd | hd
        · exact absurd hk3 hd
        · subst hd
          rw [List.take_of_length_le (by omega)]; exact hm
    have hdir : dirX all n.dropLast = true := by
      unfold dirX
      rw [List.any_eq_true]
      refine ⟨(n.take (n.length - 1), true), ?_, by simp [List.dropLast_eq_take]⟩
      rw [hall]
      exact List.mem_append_left _ (hnew _ (by omega))
    simp only [refT, Bool.and_eq_true]
    refine ⟨⟨hb, hdir⟩, ih (pre ++ [(n, d)]) n d (by rw [hall]; simp) (by simp) (fun k hk => ?_) hr⟩
    exact List.mem_append_left _ (hnew k hk)
include irr tr in
theorem ref_prog (all : List (List α × Bool)) : ∀ (r pre : List (List α × Bool)) (ahead : List α) (dir : Bool), all = pre ++ (ahead, dir) :: r → (∀ x ∈ pre, behindX lt x.1 ahead = true) → refT lt all ahead r = true → progT lt ahead dir r = true := by
  intro r
  induction r with
  | nil => intro _ _ _ _ _ _; rfl
  | cons y r ih =>
    intro pre ahead dir hall hp h
    obtain ⟨n, d⟩ := y
    have hlate := refT_all lt irr tr all _ _ h
    simp only [refT, Bool.and_eq_true] at h
    obtain ⟨⟨hb, hd⟩, hr⟩ := h
    have hlate2 := refT_all lt irr tr all _ _ hr
    have hne := behind_ne lt hb
    have hlen : 0 < n.length := List.length_pos_iff.mpr hne
    unfold dirX at hd
    rw [List.any_eq_true] at hd
    obtain ⟨⟨m, md⟩, hmem, hm⟩ := hd
    simp only [Bool.and_eq_true, decide_eq_true_eq] at hm
    obtain ⟨rfl, rfl⟩ := hm
    have hbd := behind_drop lt n hne
    have hwhere : (n.dropLast, true) ∈ pre ∨ (n.dropLast, true) = (ahead, dir) := by
      rw [hall] at hmem
      rcases List.mem_append.mp hmem with e | e
      · exact .inl e
      · rcases List.mem_cons.mp e with e | e
        · exact .inr e
        · rcases List.mem_cons.mp e with e | e
          · injection e with e1 e2
            rw [e1, behind_irr lt] at hbd; cases hbd
          · have h1 := hlate2 _ e
            have h2 := behind_trans lt irr tr _ _ _ h1 hbd
            rw [behind_irr lt] at h2; cases h2
    have hml : behindX lt n.dropLast ahead = true ∨ n.dropLast = ahead := by
      rcases hwhere with e | e
      · exact .inl (hp _ e)
      · injection e with e1 e2; exact .inr e1
    have hdl : n.dropLast.length = n.length - 1 := by simp
    have htk := behind_pre lt irr tr n.dropLast ahead n hml hb (by rw [hdl, List.dropLast_eq_take])
    have hal : n.length - 1 ≤ ahead.length := by
      have := congrArg List.length htk
      rw [List.length_take, hdl] at this
      omega
    have hsh : n.length - 1 ≤ sharedX ahead n := take_shared ahead n _ hal (by omega) (by rw [hdl] at htk; rw [htk, List.dropLast_eq_take])
    have hdir : n.length - 1 ≠ ahead.length ∨ dir = true := by
      by_cases e : n.length - 1 = ahead.length
      · right
        rw [hdl, e, List.take_of_length_le (Nat.le_refl _)] at htk
        rcases hwhere with e2 | e2
        · have := hp _ e2
          rw [htk, behind_irr lt] at this; cases this
        · injection e2 with e3 e4; exact e4.symm
      · exact .inl e
    simp only [progT, stepX, Bool.and_eq_true, Bool.or_eq_true, decide_eq_true_eq]
    refine ⟨⟨⟨hb, hsh⟩, hdir⟩, ih (pre ++ [(ahead, dir)]) n d (by rw [hall]; simp) (fun x hx => ?_) hr⟩
    rcases List.mem_append.mp hx with e | e
    · exact behind_trans lt irr tr _ _ _ (hp x e) hb
    · simp at e; subst e; exact hb
include irr tr in
theorem prog_is_ref (r : List (List α × Bool)) : progT lt [] true r = refT lt (([], true) :: r) [] r := by
  rw [Bool.eq_iff_iff]
  exact ⟨prog_ref lt (([], true) :: r) r [([], true)] [] true (by simp) (by simp) (fun k hk => by simp at hk),
    ref_prog lt irr tr (([], true) :: r) r [] [] true (by simp) (fun x hx => by simp at hx)⟩
end
end Go.Proofs.YtlnaeppbhjmocaaDoor
set_option linter.unusedSimpArgs false
set_option linter.unusedVariables false
namespace Go.Proofs.YtlnaeppbhjmocaaDoor
open Go.RowKit Go.Proofs

def cutsL : List UInt8 → List UInt8 → List (List UInt8)
  | w, [] => [w]
  | w, c :: r => if c = 47 then w :: cutsL [] r else cutsL (w ++ [c]) r
theorem parts_cuts (s : List UInt8) : ∀ w, partsL w s = (cutsL w s).filter (fun x => decide (okW x)) := by
  induction s with
  | nil => intro w; by_cases h : okW w <;> simp [partsL, cutsL, h]
  | cons c r ih =>
    intro w
    by_cases hc : c = 47
    · subst hc
      by_cases h : okW w <;> simp [partsL, cutsL, h, ih]
    · simp [partsL, cutsL, hc, ih]
theorem cuts_no (s : List UInt8) (h : (47 : UInt8) ∉ s) : ∀ w, cutsL w s = [w ++ s] := by
  induction s with
  | nil => intro w; simp [cutsL]
  | cons c r ih =>
    intro w
    rw [cutsL, if_neg (fun e => h (by simp [e])), ih (fun e => h (by simp [e]))]
    simp
theorem cuts_at (a r : List UInt8) (h : (47 : UInt8) ∉ a) : ∀ w, cutsL w (a ++ 47 :: r) = (w ++ a) :: cutsL [] r := by
  induction a with
  | nil => intro w; simp [cutsL]
  | cons c t ih =>
    intro w
    rw [List.cons_append, cutsL, if_neg (fun e => h (by simp [e])), ih (fun e => h (by simp [e]))]
    simp
theorem ix_no {s : List UInt8} (h : Lib.indexByte s 47 = -1) : (47 : UInt8) ∉ s := fun e => by
  obtain ⟨k, hk, he⟩ := List.mem_iff_getElem.mp e
  exact Lib.indexByte_none h k (by rw [List.getElem?_eq_getElem hk, he])
theorem ix_at {s : List UInt8} {o : Nat} (h : Lib.indexByte s 47 = o) : o < s.length ∧ s = s.take o ++ 47 :: s.drop (o + 1) ∧ (47 : UInt8) ∉ s.take o := by
  obtain ⟨h1, h2⟩ := Lib.indexByte_some h
  have hlt : o < s.length := (List.getElem?_eq_some_iff.mp h1).1
  have he : s[o] = 47 := (List.getElem?_eq_some_iff.mp h1).2
  refine ⟨hlt, ?_, fun e => ?_⟩
  · conv => lhs; rw [← List.take_append_drop o s]
    rw [List.drop_eq_getElem_cons hlt, he]
  · obtain ⟨k, hk, he'⟩ := List.mem_iff_getElem.mp e
    have hk' : k < o := by rw [List.length_take] at hk; omega
    refine h2 k hk' ?_
    rw [List.getElem_take] at he'
    rw [List.getElem?_eq_getElem (by omega), he']
theorem ix_or (s : List UInt8) : Lib.indexByte s 47 = -1 ∨ ∃ o : Nat, Lib.indexByte s 47 = o := by
  have := Lib.indexByte_ge s 47
  by_cases h : Lib.indexByte s 47 = -1
  · exact .inl h
  · exact .inr ⟨(Lib.indexByte s 47).toNat, by omega⟩
theorem cuts_ix_no {s : List UInt8} (h : Lib.indexByte s 47 = -1) : cutsL [] s = [s] := by
  rw [cuts_no s (ix_no h)]; rfl
theorem cuts_ix {s : List UInt8} {o : Nat} (h : Lib.indexByte s 47 = o) : cutsL [] s = s.take o :: cutsL [] (s.drop (o + 1)) := by
  obtain ⟨_, h2, h3⟩ := ix_at h
  conv => lhs; rw [h2]
  rw [cuts_at _ _ h3]
  simp
theorem cuts_len (s : List UInt8) : ∀ w, (cutsL w s).length ≤ s.length + 1 := by
  induction s with
  | nil => intro w; simp [cutsL]
  | cons c r ih =>
    intro w
    rw [cutsL]
    split
    · have := ih []; simp; omega
    · have := ih (w ++ [c]); simp; omega

/-! ### Names of a text, a path, a leaf's path -/
def namesQ (s : List UInt8) : List ByteArray × Int :=
  if (0 : UInt8) ∈ s then ([], 160) else if 1023 < s.length then ([], 161) else
  if 64 < (partsL [] s).length ∨ ((partsL [] s).map toB).any (fun x => decide (63 < x.size)) = true then ([], 161) else ((partsL [] s).map toB, 0)
def splitQ (s : List UInt8) : List ByteArray × Int := if s.head? = some 47 then namesQ s else ([], 160)
def isUp (x : ByteArray) : Bool := x.data.toList == [46, 46]
def cleanQ (s : List UInt8) : List UInt8 × Int := if (splitQ s).2 = 0 then (pathL ((splitQ s).1.dropWhile isUp), 0) else ([], (splitQ s).2)
/-- the names of a leaf's path, if that may be -/
def namesP (s : List UInt8) : Option (List ByteArray) := if (cleanQ s).2 = 0 ∧ (cleanQ s).1 = s ∧ (splitQ s).1.any isUp = false then some (splitQ s).1 else none
theorem namesQ_err {s : List UInt8} : (namesQ s).2 = 0 ∨ (namesQ s).1 = [] ∧ ((namesQ s).2 = 160 ∨ (namesQ s).2 = 161) := by
  unfold namesQ
  split
  · exact .inr ⟨rfl, .inl rfl⟩
  · split
    · exact .inr ⟨rfl, .inr rfl⟩
    · split
      · exact .inr ⟨rfl, .inr rfl⟩
      · exact .inl rfl
theorem splitQ_err {s : List UInt8} : (splitQ s).2 = 0 ∨ (splitQ s).1 = [] ∧ ((splitQ s).2 = 160 ∨ (splitQ s).2 = 161) := by
  unfold splitQ
  split
  · exact namesQ_err
  · exact .inr ⟨rfl, .inl rfl⟩
theorem splitQ_head {s : List UInt8} (h : (splitQ s).2 = 0) : s.head? = some 47 := by
  unfold splitQ at h
  split at h
  · assumption
  · cases h
theorem parts_total (s : List UInt8) : ∀ w, ((partsL w s).map fun x => x.length + 1).sum ≤ w.length + s.length + 1 := by
  induction s with
  | nil => intro w; rw [partsL]; split <;> simp
  | cons c r ih =>
    intro w
    rw [partsL]
    split
    · split
      · have := ih []; simp at this ⊢; omega
      · have := ih []; simp at this ⊢; omega
    · have := ih (w ++ [c]); simp at this ⊢; omega
theorem splitQ_good {s : List UInt8} (h : (splitQ s).2 = 0) : s.length ≤ 1023 ∧ (0 : UInt8) ∉ s ∧ (splitQ s).1 = (partsL [] s).map toB ∧ (splitQ s).1.length ≤ 64 ∧ (∀ x ∈ (splitQ s).1, x.size ≤ 63) ∧ ((splitQ s).1.map fun x => x.size + 1).sum ≤ 1024 := by
  have hh := splitQ_head h
  unfold splitQ at h ⊢
  rw [if_pos hh] at h ⊢
  unfold namesQ at h ⊢
  split at h
  · cases h
  · rename_i h0
    split at h
    · cases h
    · rename_i h1
      split at h
      · cases h
      · rename_i h2
        rw [if_neg h0, if_neg h1, if_neg h2]
        have h3 : ¬ 64 < (partsL [] s).length := fun e => h2 (.inl e)
        refine ⟨by omega, h0, rfl, by rw [List.length_map]; omega, fun x hx => ?_, ?_⟩
        · rcases Nat.lt_or_ge 63 x.size with e | e
          · exact absurd (.inr (List.any_eq_true.2 ⟨x, hx, decide_eq_true e⟩)) h2
          · exact e
        · have := parts_total s []
          rw [List.map_map]
          have e : ((fun x : ByteArray => x.size + 1) ∘ toB) = fun x : List UInt8 => x.length + 1 := by funext x; rfl
          rw [e]
          simp at this ⊢
          omega
theorem pathL_len (l : List ByteArray) : (l.flatMap fun n => slash :: n.data.toList).length = (l.map fun x => x.size + 1).sum := by
  induction l with
  | nil => rfl
  | cons x r ih =>
    rw [List.flatMap_cons, List.length_append, ih, List.map_cons, List.sum_cons]
    show x.data.toList.length + 1 + _ = x.size + 1 + _
    rw [show x.data.toList.length = x.size from rfl]
theorem sum_drop (l : List ByteArray) (f : ByteArray → Bool) : ((l.dropWhile f).map fun x => x.size + 1).sum ≤ (l.map fun x => x.size + 1).sum := by
  induction l with
  | nil => simp
  | cons x r ih =>
    rw [List.dropWhile_cons]
    split
    · simp; omega
    · exact Nat.le_refl _
end Go.Proofs.YtlnaeppbhjmocaaDoor
set_option linter.unusedSimpArgs false
set_option linter.unusedVariables false
namespace Go.Proofs.YtlnaeppbhjmocaaDoor
open Go.RowKit Go.Proofs

def goodB (ty mo : Int) (dl : Nat) (tg : ByteArray) : Bool :=
  !(decide (mo < 0) || decide (4095 < mo) || (!decide (ty = 1) && decide (0 < dl)) || decide (16777216 < dl)) &&
    (if ty = 1 ∨ ty = 2 then decide (tg.data.toList = []) else if ty = 3 then targetB tg else false)

set_option maxRecDepth 100000 in
set_option maxHeartbeats 1600000 in
theorem good_any (pa : ByteArray) (ty mo st : Int) (A : Option Addr) (n c : Nat) (tg : ByteArray) (w : World) (hw : Ok w) :
    Calls Tryd.prog 47 #[.agg #[.string pa, .int .i64 ty, .int .i64 mo, .int .u64 st, .slice A n c, .string tg]] w fun e w' => e = .returned (.bool (goodB ty mo n tg)) ∧ Fr w w' := by
  obtain ⟨R, hR⟩ : ∃ R, goodB ty mo n tg = R := ⟨_, rfl⟩
  rw [hR]
  have HR := Lib.hid hR
  clear hR
  obtain ⟨w1, g, hg, hw1, f1, hz1, H1⟩ := boxedN hw #[.string pa, .int .i64 ty, .int .i64 mo, .int .u64 st, .slice A n c, .string tg] 45
  obtain ⟨c0, c1, c2, c3, c4, c5⟩ := blk6 H1
  have HF := Lib.hid f1
  have CT := goodTarget_any tg
  clear f1
  have hno : ∀ (a : Act) , True := fun _ => trivial
  by_cases hm0 : mo < 0
  · go_enter Tryd.func47, Tryd.ntmps47
    go_wp2_with fail
    go_ret
    refine ⟨?_, HF.out⟩
    rw [← HR.out]
    simp [goodB, hm0]
  · by_cases hm1 : 4095 < mo
    · go_enter Tryd.func47, Tryd.ntmps47
      go_wp2_with fail
      go_ret
      refine ⟨?_, HF.out⟩
      rw [← HR.out]
      simp [goodB, hm1]
    · have e0 : decide (mo < 0) = false := decide_eq_false hm0
      have e1 : decide (4095 < mo) = false := decide_eq_false hm1
      obtain ⟨bt, hbt⟩ : ∃ b, (tg.toList == ([] : List UInt8)) = b := ⟨_, rfl⟩
      have hbt2 : decide (tg.data.toList = []) = bt := by
        rw [← hbt, toL]
        cases tg.data.toList <;> simp
      have HB := Lib.hid hbt2
      clear hbt2
      by_cases h1 : ty = 1
      · subst h1
        by_cases hl : 16777216 < n
        · have d3 : (16777216 : Int) < (n : Int) := by omega
          go_enter Tryd.func47, Tryd.ntmps47
          go_wp2_with fail
          all_goals (go_ret; refine ⟨?_, HF.out⟩; rw [← HR.out]; simp [goodB, hl])
        · have d3 : (n : Int) ≤ 16777216 := by omega
          go_enter Tryd.func47, Tryd.ntmps47
          go_wp2_with fail
          all_goals (go_ret; refine ⟨?_, HF.out⟩; rw [← HR.out]; unfold goodB; rw [HB.out]; simp [hl, e0, e1])
      · by_cases hn : 0 < n
        · have d3 : (0 : Int) < (n : Int) := by omega
          go_enter Tryd.func47, Tryd.ntmps47
          go_wp2_with fail
          all_goals (go_ret; refine ⟨?_, HF.out⟩; rw [← HR.out]; simp [goodB, hn, h1])
        · obtain rfl : n = 0 := by omega
          by_cases h2 : ty = 2
          · subst h2
            go_enter Tryd.func47, Tryd.ntmps47
            go_wp2_with fail
            all_goals (go_ret; refine ⟨?_, HF.out⟩; rw [← HR.out]; unfold goodB; rw [HB.out]; simp [e0, e1])
          · by_cases h3 : ty = 3
            · subst h3
              go_enter Tryd.func47, Tryd.ntmps47
              go_wp2_with (first
                | (go_at_call 64; refine (CT _).mono ?_; rintro e wq ⟨rfl, he⟩; replace he := he.symm; subst he))
              all_goals (go_ret; refine ⟨?_, HF.out⟩; rw [← HR.out]; simp [goodB, e0, e1])
            · go_enter Tryd.func47, Tryd.ntmps47
              go_wp2_with fail
              all_goals (go_ret; refine ⟨?_, HF.out⟩; rw [← HR.out]; simp [goodB, e0, e1, h1, h2, h3])
end Go.Proofs.YtlnaeppbhjmocaaDoor
