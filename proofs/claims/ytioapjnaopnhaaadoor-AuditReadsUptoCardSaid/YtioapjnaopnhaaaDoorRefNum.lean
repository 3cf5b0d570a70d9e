/- The document's own reader of numbers and kinds (shaleref19: unsigned, number, kind), for every text. No conditions. -/
import Derived.Test.YtioapjnaopnhaaaDoorRead
set_option linter.unusedSimpArgs false
set_option linter.unusedVariables false
namespace Go.Proofs.YtioapjnaopnhaaaDoor
open Go.RowKit Go.Proofs

def unsGo : Nat → List UInt8 → Option Nat
  | v, [] => some v
  | v, c :: r => if c.toNat < 48 then none else if 57 < c.toNat then none else if (18446744073709551615 - (c.toNat - 48)) / 10 < v then none else unsGo (v * 10 + (c.toNat - 48)) r
def unsL (s : List UInt8) : Nat × Bool := match unsGo 0 s with
  | none => (0, false)
  | some v => (v, !s.isEmpty)
theorem unsGo_le : ∀ {s : List UInt8} {v u : Nat}, v ≤ 18446744073709551615 → unsGo v s = some u → u ≤ 18446744073709551615
  | [], v, u, hv, h => by simp [unsGo] at h; omega
  | c :: r, v, u, hv, h => by
    simp only [unsGo] at h
    split at h
    · cases h
    split at h
    · cases h
    split at h
    · cases h
    · exact unsGo_le (by omega) h
theorem unsL_le (s : List UInt8) : (unsL s).1 ≤ 18446744073709551615 := by
  unfold unsL
  cases h : unsGo 0 s with
  | none => simp
  | some v => exact unsGo_le (by omega) h
theorem unsGo_app : ∀ {s t : List UInt8} {v : Nat}, unsGo v (s ++ t) = (unsGo v s).bind fun u => unsGo u t
  | [], t, v => by simp [unsGo]
  | c :: r, t, v => by
    simp only [List.cons_append, unsGo]
    split
    · rfl
    split
    · rfl
    split
    · rfl
    · exact unsGo_app
theorem unsGo_dec (u : Nat) : u ≤ 18446744073709551615 → unsGo 0 (Lib.decDigits u) = some u := by
  induction u using Nat.strongRecOn with
  | _ u ih =>
    intro hu
    rw [Lib.decDigits]
    have hd : ∀ d, d < 10 → (UInt8.ofNat (48 + d)).toNat = 48 + d := fun d hd => by rw [UInt8.toNat_ofNat_of_lt' (by show 48 + d < 256; omega)]
    split
    · rename_i h
      simp only [unsGo, hd u h]
      rw [if_neg (by omega), if_neg (by omega), if_neg (by omega)]
      simp
    · rename_i h
      rw [unsGo_app, ih (u / 10) (by omega) (by omega)]
      simp only [Option.bind_some, unsGo, hd (u % 10) (by omega)]
      rw [if_neg (by omega), if_neg (by omega), if_neg (by omega)]
      congr 1; omega
theorem unsL_dec (u : Nat) (hu : u ≤ 18446744073709551615) : unsL (Lib.decDigits u) = (u, true) := by
  unfold unsL
  rw [unsGo_dec u hu]
  obtain ⟨c, r, h, _⟩ := decDigits_head u
  rw [h]; rfl
def negL : List UInt8 → Bool
  | [] => false
  | c :: _ => c == 45
def numL (s : List UInt8) : Int :=
  let u := unsL (if negL s then s.drop 1 else s)
  if u.2 = false then 0 else if negL s ∧ u.1 = 9223372036854775808 then -9223372036854775808 else if 9223372036854775807 < u.1 then 0 else if negL s then -(u.1 : Int) else (u.1 : Int)
theorem numL_i64 (s : List UInt8) : I64 (numL s) := by
  unfold numL I64
  dsimp only
  split
  · omega
  split
  · omega
  split
  · omega
  split <;> omega
theorem numL_itoa (n : Int) (h : I64 n) : numL (Lib.itoa n) = n := by
  obtain ⟨h1, h2⟩ := h
  unfold numL Lib.itoa
  by_cases hn : n < 0
  · rw [if_pos hn]
    have e : unsL (Lib.decDigits n.natAbs) = (n.natAbs, true) := unsL_dec _ (by omega)
    simp only [negL, beq_self_eq_true, if_true, List.drop_succ_cons, List.drop_zero, e]
    rw [if_neg (by simp)]
    by_cases hm : n.natAbs = 9223372036854775808
    · rw [if_pos ⟨trivial, hm⟩]; omega
    · rw [if_neg (by simp [hm]), if_neg (by omega)]; omega
  · rw [if_neg hn]
    have e : unsL (Lib.decDigits n.toNat) = (n.toNat, true) := unsL_dec _ (by omega)
    have hng : negL (Lib.decDigits n.toNat) = false := by
      obtain ⟨c, r, hc, h3, h4⟩ := decDigits_head n.toNat
      rw [hc]
      simp only [negL, beq_eq_false_iff_ne]
      rintro rfl
      simp at h3
    rw [hng]
    simp only [Bool.false_eq_true, if_false, e, false_and]
    rw [if_neg (by simp), if_neg (by omega)]; omega

set_option maxHeartbeats 1600000 in
set_option maxRecDepth 100000 in
theorem refUnsigned_any (s : ByteArray) (w : World) (hs : s.size ≤ 1099511627776) :
    Calls Tryd.prog 25 #[.string s] w fun e w' => e = .returned (.tuple #[.int .u64 ((unsL s.data.toList).1 : Nat), .bool (unsL s.data.toList).2]) ∧ w = w' := by
  go_enter Tryd.func25, Tryd.ntmps25
  go_wp2
  go_loop [4, 5] (fun v i => ∃ k u : Nat, k ≤ s.size ∧ i = .int .i64 k ∧ v = .int .u64 u ∧ u ≤ 18446744073709551615 ∧ Hid (unsGo u (s.data.toList.drop k) = unsGo 0 s.data.toList)) (fun _ i => s.size - (intOf i).toNat)
  case atStart => exact ⟨0, 0, by omega, rfl, rfl, by omega, Lib.hid rfl⟩
  case round =>
    obtain ⟨k, u, hk, rfl, rfl, hu, HU⟩ := hrel
    by_cases hlt : k < s.size
    · have hd : s.data.toList.drop k = s[k] :: s.data.toList.drop (k + 1) := by
        rw [List.drop_eq_getElem_cons (by simpa using hlt)]; rfl
      have hu' := HU.out
      rw [hd] at hu'
      simp only [unsGo] at hu'
      clear hd HU
      have hb := s[k].toNat_lt
      by_cases h1 : (s[k].toNat : Int) < 48
      · have HR : Hid (unsL s.data.toList = (0, false)) := Lib.hid (by unfold unsL; rw [← hu', if_pos (by omega)])
        clear hu'
        go_wp2
        go_ret2
        exact ⟨by rw [HR.out]; rfl, rfl⟩
      · rw [if_neg (by omega)] at hu'
        have h1' : 48 ≤ (s[k].toNat : Int) := by omega
        by_cases h2 : 57 < (s[k].toNat : Int)
        · have HR : Hid (unsL s.data.toList = (0, false)) := Lib.hid (by unfold unsL; rw [← hu', if_pos (by omega)])
          clear hu'
          go_wp2
          go_ret2
          exact ⟨by rw [HR.out]; rfl, rfl⟩
        · rw [if_neg (by omega)] at hu'
          have h2' : (s[k].toNat : Int) ≤ 57 := by omega
          by_cases h3 : (18446744073709551615 - ((s[k].toNat : Int) - 48)) / 10 < (u : Int)
          · have HR : Hid (unsL s.data.toList = (0, false)) := Lib.hid (by unfold unsL; rw [← hu', if_pos (by omega)])
            clear hu'
            go_wp2
            go_ret2
            exact ⟨by rw [HR.out]; rfl, rfl⟩
          · rw [if_neg (by omega)] at hu'
            have h3' : (u : Int) * 10 + ((s[k].toNat : Int) - 48) ≤ 18446744073709551615 := by omega
            have HU := Lib.hid hu'
            clear hu'
            go_wp2
            go_round
            case rel => exact ⟨k + 1, u * 10 + (s[k].toNat - 48), by omega, by go_num, by congr 1; omega, by omega, HU⟩
            case measure => simp [intOf]; omega
    · obtain rfl : k = s.size := by omega
      have hd : s.data.toList.drop s.size = [] := List.drop_eq_nil_of_le (by rw [Array.length_toList]; exact Nat.le_refl _)
      have hu' := HU.out
      rw [hd] at hu'
      simp only [unsGo] at hu'
      have HR : Hid (unsL s.data.toList = (u, !s.data.toList.isEmpty)) := Lib.hid (by unfold unsL; rw [← hu'])
      clear hu' hd HU
      go_wp2
      go_ret2
      exact ⟨by rw [HR.out, ← Lib.toList_data s]; rfl, rfl⟩

/-- number behind its sign: what the digits s' say -/
def numOf (neg : Bool) (u : Nat × Bool) : Int := if u.2 = false then 0 else if neg ∧ u.1 = 9223372036854775808 then -9223372036854775808 else if 9223372036854775807 < u.1 then 0 else if neg then -(u.1 : Int) else (u.1 : Int)
theorem numL_eq (s : List UInt8) : numL s = numOf (negL s) (unsL (if negL s then s.drop 1 else s)) := rfl

set_option maxHeartbeats 1600000 in
set_option maxRecDepth 100000 in
theorem refNumber_any (s : ByteArray) (w : World) (hs : s.size ≤ 1099511627776) :
    Calls Tryd.prog 26 #[.string s] w fun e w' => e = .returned (.int .i64 (numL s.data.toList)) ∧ w = w' := by
  have hd : ∃ neg s', negL s.data.toList = neg ∧ s' = (if neg then s.extract 1 s.size else s) ∧ numL s.data.toList = numOf neg (unsL s'.data.toList) ∧ s'.size ≤ 1099511627776 := by
    refine ⟨_, _, rfl, rfl, ?_, ?_⟩
    · rw [numL_eq]
      cases negL s.data.toList
      · rfl
      · simp only [if_true]; rw [Lib.extract_to_end]
    · split
      · simp only [ByteArray.size_extract]; omega
      · exact hs
  obtain ⟨neg, s', hneg, hs', hnum, hsz⟩ := hd
  rw [hnum]
  clear hnum
  have C : ∃ u b, unsL s'.data.toList = (u, b) ∧ u ≤ 18446744073709551615 ∧ Calls Tryd.prog 25 #[.string s'] w fun e w' => e = .returned (.tuple #[.int .u64 (u : Nat), .bool b]) ∧ w = w' :=
    ⟨_, _, rfl, unsL_le _, refUnsigned_any s' w hsz⟩
  obtain ⟨u, b, hub, hu, C⟩ := C
  rw [hub]
  clear hub hsz
  replace C := Lib.hid C
  have fin : ∃ v, Hid (v = numOf neg (u, b)) := ⟨_, Lib.hid rfl⟩
  obtain ⟨v, fin⟩ := fin
  rw [← fin.out]
  rcases he : s.data.toList with _ | ⟨c, r⟩
  · have hE : s.toList.isEmpty = true := by rw [Lib.toList_data, he]; rfl
    rw [he] at hneg
    simp only [negL] at hneg
    subst hneg
    simp only [Bool.false_eq_true, if_false] at hs'
    subst hs'
    clear he
    have hv := fin.out
    clear fin
    unfold numOf at hv
    cases b
    · simp only [if_true] at hv
      subst hv
      go_enter Tryd.func26, Tryd.ntmps26
      go_wp2_with (go_at_call 25; refine C.out.mono ?_; rintro e wq ⟨rfl, rfl⟩)
      go_ret
      exact ⟨rfl, rfl⟩
    · simp only [Bool.true_eq_false, if_false, Bool.false_eq_true, false_and] at hv
      by_cases h2 : 9223372036854775807 < (u : Int)
      · rw [if_pos (by omega)] at hv
        subst hv
        go_enter Tryd.func26, Tryd.ntmps26
        go_wp2_with (go_at_call 25; refine C.out.mono ?_; rintro e wq ⟨rfl, rfl⟩)
        go_ret
        exact ⟨rfl, rfl⟩
      · rw [if_neg (by omega)] at hv
        have h2' : (u : Int) ≤ 9223372036854775807 := by omega
        subst hv
        go_enter Tryd.func26, Tryd.ntmps26
        go_wp2_with (go_at_call 25; refine C.out.mono ?_; rintro e wq ⟨rfl, rfl⟩)
        go_ret
        exact ⟨rfl, rfl⟩
  · have hE : s.toList.isEmpty = false := by rw [Lib.toList_data, he]; rfl
    have h0 : 0 < s.size := by have := congrArg List.length he; rw [Array.length_toList] at this; have e : s.size = s.data.size := rfl; rw [List.length_cons] at this; omega
    have h0' : 0 < (s.size : Int) := by omega
    have hc : s[0].toNat = c.toNat := by
      have : s.data.toList[0]? = some c := by rw [he]; rfl
      have h3 : s.data.toList[0]? = some s[0] := by rw [List.getElem?_eq_getElem (by rw [Array.length_toList]; exact h0)]; rfl
      rw [h3] at this
      injection this with this
      rw [this]
    rw [he] at hneg
    simp only [negL] at hneg
    have hb : ((s[0].toNat : Int) == 45) = neg := by
      rw [hc, ← hneg]
      cases hc45 : (c == 45)
      · rw [beq_eq_false_iff_ne]
        intro h
        have : c = 45 := UInt8.toNat_inj.1 (by show c.toNat = 45; omega)
        rw [this] at hc45
        simp at hc45
      · have := beq_iff_eq.1 hc45
        subst this
        rfl
    clear he hc hneg
    have hv := fin.out
    clear fin
    unfold numOf at hv
    cases neg
    · simp only [Bool.false_eq_true, if_false] at hs'
      subst hs'
      cases b
      · simp only [if_true] at hv
        subst hv
        go_enter Tryd.func26, Tryd.ntmps26
        go_wp2_with (go_at_call 25; refine C.out.mono ?_; rintro e wq ⟨rfl, rfl⟩)
        go_ret
        exact ⟨rfl, rfl⟩
      · simp only [Bool.true_eq_false, if_false, Bool.false_eq_true, false_and] at hv
        by_cases h2 : 9223372036854775807 < (u : Int)
        · rw [if_pos (by omega)] at hv
          subst hv
          go_enter Tryd.func26, Tryd.ntmps26
          go_wp2_with (go_at_call 25; refine C.out.mono ?_; rintro e wq ⟨rfl, rfl⟩)
          go_ret
          exact ⟨rfl, rfl⟩
        · rw [if_neg (by omega)] at hv
          have h2' : (u : Int) ≤ 9223372036854775807 := by omega
          subst hv
          go_enter Tryd.func26, Tryd.ntmps26
          go_wp2_with (go_at_call 25; refine C.out.mono ?_; rintro e wq ⟨rfl, rfl⟩)
          go_ret
          exact ⟨rfl, rfl⟩
    · simp only [if_true] at hs'
      subst hs'
      cases b
      · simp only [if_true] at hv
        subst hv
        go_enter Tryd.func26, Tryd.ntmps26
        go_wp2_with (go_at_call 25; refine C.out.mono ?_; rintro e wq ⟨rfl, rfl⟩)
        go_ret
        exact ⟨rfl, rfl⟩
      · simp only [Bool.true_eq_false, if_false, true_and] at hv
        by_cases h1 : u = 9223372036854775808
        · rw [if_pos h1] at hv
          have h1' : ((u : Int) == 9223372036854775808) = true := by rw [beq_iff_eq]; omega
          clear h1
          subst hv
          go_enter Tryd.func26, Tryd.ntmps26
          go_wp2_with (go_at_call 25; refine C.out.mono ?_; rintro e wq ⟨rfl, rfl⟩)
          go_ret
          exact ⟨rfl, rfl⟩
        · rw [if_neg h1] at hv
          have h1' : ((u : Int) == 9223372036854775808) = false := by rw [beq_eq_false_iff_ne]; omega
          by_cases h2 : 9223372036854775807 < (u : Int)
          · rw [if_pos (by omega)] at hv
            subst hv
            clear h1
            go_enter Tryd.func26, Tryd.ntmps26
            go_wp2_with (go_at_call 25; refine C.out.mono ?_; rintro e wq ⟨rfl, rfl⟩)
            go_ret
            exact ⟨rfl, rfl⟩
          · rw [if_neg (by omega)] at hv
            have h2' : (u : Int) ≤ 9223372036854775807 := by omega
            subst hv
            clear h1
            go_enter Tryd.func26, Tryd.ntmps26
            go_wp2_with (go_at_call 25; refine C.out.mono ?_; rintro e wq ⟨rfl, rfl⟩)
            go_ret
            exact ⟨rfl, rfl⟩

/-- kind: of a word, or of a number -/
def kindFromR (x : List UInt8) : Nat → Nat → Int
  | 0, _ => numL x
  | n + 1, k => if wordL (k : Int) = x then (k : Int) else kindFromR x n (k + 1)
def kindR (x : List UInt8) : Int := kindFromR x 9 1
theorem kindFromR_i64 (x : List UInt8) : ∀ n k : Nat, k + n ≤ 10 → I64 (kindFromR x n k)
  | 0, k, _ => numL_i64 x
  | n + 1, k, h => by
    simp only [kindFromR]
    split
    · unfold I64; omega
    · exact kindFromR_i64 x n (k + 1) (by omega)
theorem kindR_i64 (x : List UInt8) : I64 (kindR x) := kindFromR_i64 x 9 1 (by omega)
theorem kindR_name (k : Int) (h : I64 k) : kindR (nameL k) = k := by
  by_cases hk : 1 ≤ k ∧ k ≤ 9
  · have : k = 1 ∨ k = 2 ∨ k = 3 ∨ k = 4 ∨ k = 5 ∨ k = 6 ∨ k = 7 ∨ k = 8 ∨ k = 9 := by omega
    rcases this with rfl | rfl | rfl | rfl | rfl | rfl | rfl | rfl | rfl <;> decide
  · have hno : ∀ n j : Nat, 1 ≤ j → j + n ≤ 10 → kindFromR (nameL k) n j = numL (nameL k) := by
      intro n
      induction n with
      | zero => intro j _ _; rfl
      | succ n ih =>
        intro j h1 h2
        simp only [kindFromR]
        rw [if_neg, ih (j + 1) (by omega) (by omega)]
        intro e
        obtain ⟨c, r, e1, hc⟩ := wordL_head j h1 (by omega)
        obtain ⟨c', r', e', hc'⟩ := itoa_head k
        have ew : wordL (j : Int) = wordsL.getD j [] := by unfold wordL; rw [if_pos (by omega)]; simp
        rw [ew, e1, nameL_out k hk, e'] at e
        injection e with e2 _
        subst e2
        omega
    unfold kindR
    rw [hno 9 1 (by omega) (by omega), nameL_out k hk]
    exact numL_itoa k h

set_option maxHeartbeats 1600000 in
set_option maxRecDepth 100000 in
theorem refKind_any (s : ByteArray) (w : World) (hw : Ok w) (hs : s.size ≤ 1099511627776) :
    Calls Tryd.prog 27 #[.string s] w fun e w' => e = .returned (.int .i64 (kindR s.data.toList)) ∧ Fr w w' := by
  have f := Fr.refl hw
  go_enter Tryd.func27, Tryd.ntmps27
  go_wp2
  go_loopw [3] (fun i W => ∃ k : Nat, 1 ≤ k ∧ k ≤ 10 ∧ i = .int .i64 k ∧ Fr w W ∧ Hid (kindFromR s.data.toList (10 - k) k = kindR s.data.toList)) (fun i _ => 10 - (intOf i).toNat)
  case atStart => exact ⟨1, by omega, by omega, rfl, f, Lib.hid rfl⟩
  case round =>
    clear f
    obtain ⟨k, hk1, hk, rfl, f, HK⟩ := hrel
    by_cases hlt : k ≤ 9
    · have hkk := HK.out
      clear HK
      rw [show 10 - k = (9 - k) + 1 by omega] at hkk
      simp only [kindFromR] at hkk
      by_cases he : wordL (k : Int) = s.data.toList
      · rw [if_pos he] at hkk
        have HE : Hid (wordL (k : Int) = s.toList) := Lib.hid (by rw [Lib.toList_data]; exact he)
        have HK := Lib.hid hkk
        clear hkk he
        go_wp2_with (go_at_call 38; refine (word_any (k : Int) _ f.ok).mono ?_; rintro e wq ⟨rfl, q⟩; replace f := f.trans q; clear q; have hbe : (wordL (k : Int) == s.toList) = true := (by rw [HE.out]; simp))
        go_ret
        exact ⟨by rw [HK.out]; rfl, f⟩
      · rw [if_neg he, show 9 - k = 10 - (k + 1) by omega] at hkk
        have HE : Hid (¬ wordL (k : Int) = s.toList) := Lib.hid (by rw [Lib.toList_data]; exact he)
        have HK := Lib.hid hkk
        clear hkk he
        go_wp2_with (go_at_call 38; refine (word_any (k : Int) _ f.ok).mono ?_; rintro e wq ⟨rfl, q⟩; replace f := f.trans q; clear q; have hbe : (wordL (k : Int) == s.toList) = false := (by rw [beq_eq_false_iff_ne]; exact HE.out))
        go_roundw
        case rel => exact ⟨k + 1, by omega, by omega, by go_num, f, HK⟩
        case measure => simp [intOf]; omega
    · obtain rfl : k = 10 := by omega
      have hkk := HK.out
      clear HK
      simp only [Nat.sub_self, kindFromR] at hkk
      have HK := Lib.hid hkk
      clear hkk
      go_wp2_with (go_at_call 26; refine (refNumber_any s _ hs).mono ?_; rintro e wq ⟨rfl, rfl⟩)
      go_ret
      exact ⟨by rw [HK.out]; rfl, f⟩
end Go.Proofs.YtioapjnaopnhaaaDoor
