/- The printed functions of the document's own reader (shaleref19: line, words, unsigned, number, kind), what they answer: plain Lean. No conditions. -/
import Derived.Test.YtioapjnaopnhaaaDoorRead
import Derived.Test.YtioapjnaopnhaaaDoorPwordsx1
import Derived.Test.YtioapjnaopnhaaaDoorPlinex1
set_option linter.unusedSimpArgs false
set_option linter.unusedVariables false
namespace Go.Proofs.YtioapjnaopnhaaaDoor
open Go.RowKit (wrap64)
open Go.Lib Go.Proofs.YtioapjnaopnhaaaDoorW.PrintWords Pwords Pline

/-- a list of bytes as a string's -/
abbrev bs (l : List UInt8) : ByteArray := ⟨l.toArray⟩
theorem bt_mid (a r : List UInt8) (c : UInt8) : bt (bs (a ++ c :: r)) (a.length : Int) = (c.toNat : Int) := by
  have h : ((a.length : Int)).toNat < (bs (a ++ c :: r)).size := by simp [ByteArray.size]
  unfold bt
  rw [dif_pos h]
  have : (bs (a ++ c :: r))[((a.length : Int)).toNat]'h = c := by
    show (a ++ c :: r).toArray[((a.length : Int)).toNat] = c
    simp
  rw [this]
theorem u8_iff (c d : UInt8) (k : Int) (h : (d.toNat : Int) = k) : ((c.toNat : Int) = k ↔ c = d) := by
  constructor
  · intro e
    apply UInt8.toNat_inj.1
    omega
  · rintro rfl
    exact h
theorem size_bs (l : List UInt8) : ((bs l).size : Int) = (l.length : Int) := by simp [ByteArray.size]
theorem extract_bs (l : List UInt8) (i j : Nat) : (bs l).extract i j = bs ((l.take j).drop i) := by
  apply ByteArray.ext
  simp [List.drop_take]
theorem w64 {i : Int} {n : Nat} (h0 : 0 ≤ i) (h : i ≤ (n : Int)) (hn : n ≤ 1099511627776) : wrap64 (i + 1) = i + 1 := by
  unfold wrap64; omega

def lineL (s : List UInt8) : List UInt8 × List UInt8 := match brk 10 s with
  | none => (s, [])
  | some p => (p.1 ++ [10], p.2)
theorem line_from : ∀ (r a : List UInt8) (k : Nat), r.length < k → (a ++ r).length ≤ 1099511627776 →
    shaleref19_line.l0 k (bs (a ++ r)) (a.length : Int) = some (match brk 10 r with | none => (bs (a ++ r), bs []) | some p => (bs (a ++ p.1 ++ [10]), bs p.2))
  | [], a, k, hk, hn => by
    obtain ⟨k, rfl⟩ : ∃ m, k = m + 1 := ⟨k - 1, by simp at hk; omega⟩
    simp only [shaleref19_line.l0]
    rw [size_bs, if_neg (by simp)]
    simp [brk]
  | c :: r, a, k, hk, hn => by
    obtain ⟨k, rfl⟩ : ∃ m, k = m + 1 := ⟨k - 1, by simp at hk; omega⟩
    simp only [List.length_cons, List.length_append] at hk hn
    have hw : wrap64 ((a.length : Int) + 1) = (a.length : Int) + 1 := w64 (n := a.length) (by omega) (by omega) (by omega)
    simp only [shaleref19_line.l0]
    rw [size_bs, if_pos (by simp; omega), if_pos (by omega), bt_mid, hw]
    by_cases hc : c = 10
    · subst hc
      rw [if_pos (by decide), if_pos (by omega), if_pos (by simp; omega)]
      have e1 : ((a.length : Int) + 1).toNat = a.length + 1 := by omega
      have e2 : (bs (a ++ 10 :: r)).size = a.length + (r.length + 1) := by simp [ByteArray.size]
      rw [e1, e2, extract_bs, extract_bs]
      have e3 : (a ++ 10 :: r).take (a.length + 1) = a ++ [10] := by
        rw [List.take_append]; simp; exact List.take_of_length_le (by omega)
      have e4 : (a ++ 10 :: r).drop (a.length + 1) = r := by
        rw [List.drop_append]; simp
      have e5 : ((a ++ 10 :: r).take (a.length + (r.length + 1))) = a ++ 10 :: r := List.take_of_length_le (by simp)
      rw [e3, e5, e4]
      simp [brk]
    · have hc' : ¬ ((c.toNat : Int) = 10) := by
        intro h
        have : c.toNat = 10 := by omega
        exact hc (UInt8.toNat_inj.1 (by simpa using this))
      rw [if_neg hc']
      have ih := line_from r (a ++ [c]) k (by omega) (by simp; omega)
      rw [List.append_assoc, List.singleton_append, List.length_append, List.length_singleton] at ih
      have e : ((a.length + 1 : Nat) : Int) = (a.length : Int) + 1 := by omega
      rw [e] at ih
      rw [ih]
      simp only [brk, if_neg hc]
      cases brk 10 r with
      | none => rfl
      | some p => simp
theorem line_f (s : List UInt8) (hn : s.length ≤ 1099511627776) : shaleref19_line.f (s.length + 1) (bs s) = some (bs (lineL s).1, bs (lineL s).2) := by
  have := line_from s [] (s.length + 1) (by omega) (by simpa using hn)
  unfold shaleref19_line.f lineL
  simp only [List.nil_append, List.length_nil] at this
  rw [show (0 : Int) = ((0 : Nat) : Int) from rfl, this]
  cases brk 10 s <;> simp

/-- the words of a line, up to a byte 10 -/
def wordsF : List UInt8 → List UInt8 → List (List UInt8)
  | cur, [] => [cur]
  | cur, c :: r => if c = 10 then [cur] else if c = 32 then cur :: wordsF [] r else wordsF (cur ++ [c]) r
theorem words_from : ∀ (r a cur : List UInt8) (acc : List ByteArray) (k : Nat), 2 * r.length + 2 < k → (a ++ cur ++ r).length ≤ 1099511627776 → acc.length ≤ (a ++ cur).length →
    shaleref19_words.l0 k (bs (a ++ cur ++ r)) acc (a.length : Int) ((a ++ cur).length : Int) = some (acc ++ (wordsF cur r).map bs)
  | [], a, cur, acc, k, hk, hn, ha => by
    obtain ⟨k, rfl⟩ : ∃ m, k = m + 3 := ⟨k - 3, by simp at hk; omega⟩
    simp only [List.append_nil] at hn ⊢
    have hl : (a ++ cur).length = a.length + cur.length := by simp
    have hw : wrap64 (((a ++ cur).length : Int) + 1) = ((a ++ cur).length : Int) + 1 := w64 (n := (a ++ cur).length) (by omega) (by omega) (by omega)
    simp only [shaleref19_words.l0]
    rw [size_bs, if_pos (by omega), if_pos rfl]
    simp only [shaleref19_words.j1]
    rw [if_pos trivial, if_pos (by omega), if_pos (by omega), size_bs, if_pos (by omega), if_pos (by omega)]
    simp only [Option.bind_some]
    rw [if_neg (by omega), hw]
    simp only [shaleref19_words.l0]
    rw [size_bs, if_neg (by omega)]
    simp only [wordsF, List.map_cons, List.map_nil]
    rw [extract_bs, Int.toNat_natCast, Int.toNat_natCast, List.take_of_length_le (Nat.le_refl _), List.drop_left]
  | c :: r, a, cur, acc, k, hk, hn, ha => by
    obtain ⟨k, rfl⟩ : ∃ m, k = m + 2 := ⟨k - 2, by simp at hk; omega⟩
    have hl : (a ++ cur).length = a.length + cur.length := by simp
    have hL : (a ++ cur ++ c :: r).length = (a ++ cur).length + (r.length + 1) := by simp; omega
    rw [hL] at hn
    have hw : wrap64 (((a ++ cur).length : Int) + 1) = ((a ++ cur).length : Int) + 1 := w64 (n := (a ++ cur).length) (by omega) (by omega) (by omega)
    have hs : ((bs (a ++ cur ++ c :: r)).size : Int) = ((a ++ cur).length : Int) + (r.length + 1) := by rw [size_bs, hL]; omega
    have hx : (bs (a ++ cur ++ c :: r)).extract ((a.length : Int)).toNat (((a ++ cur).length : Int)).toNat = bs cur := by
      rw [extract_bs, Int.toNat_natCast, Int.toNat_natCast, List.take_left, List.drop_left]
    simp only [shaleref19_words.l0]
    rw [hs, if_pos (by omega), if_neg (by omega), if_pos (by omega), if_pos (by omega), bt_mid]
    have h32 := u8_iff c 32 32 rfl
    have h10 := u8_iff c 10 10 rfl
    have hlast : ∀ (m : Nat), 2 * r.length + 2 < m → (if (((a ++ cur).length : Int)) < ((a ++ cur).length : Int) + (r.length + 1) then (if 0 ≤ (((a ++ cur).length : Int)) then (if (bt (bs (a ++ cur ++ c :: r)) ((a ++ cur).length : Int)) = 10 then (some (acc ++ [bs cur])) else (shaleref19_words.l0 m (bs (a ++ cur ++ c :: r)) (acc ++ [bs cur]) (((a ++ cur).length : Int) + 1) (((a ++ cur).length : Int) + 1))) else none) else (shaleref19_words.l0 m (bs (a ++ cur ++ c :: r)) (acc ++ [bs cur]) (((a ++ cur).length : Int) + 1) (((a ++ cur).length : Int) + 1))) =
        some (acc ++ (if c = 10 then [cur] else cur :: wordsF [] r).map bs) := fun m hm => by
      rw [if_pos (by omega), if_pos (by omega), bt_mid]
      by_cases e : c = 10
      · rw [if_pos (h10.2 e), if_pos e]; rfl
      · rw [if_neg (fun h => e (h10.1 h)), if_neg e]
        have ih := words_from r (a ++ cur ++ [c]) [] (acc ++ [bs cur]) m (by omega) (by simp; omega) (by simp; omega)
        have e1 : ((a ++ cur ++ [c] ++ []).length : Int) = ((a ++ cur).length : Int) + 1 := by simp; omega
        have e2 : ((a ++ cur ++ [c]).length : Int) = ((a ++ cur).length : Int) + 1 := by simp; omega
        have e3 : a ++ cur ++ [c] ++ [] ++ r = a ++ cur ++ c :: r := by simp
        rw [e1, e2, e3] at ih
        rw [ih]
        simp
    by_cases e : c = 32
    · rw [if_pos (h32.2 e)]
      have e10 : ¬ c = 10 := by subst e; decide
      simp only [shaleref19_words.j1]
      rw [if_pos trivial, if_pos (by omega), if_pos (by omega), hs, if_pos (by omega), if_pos (by omega)]
      simp only [Option.bind_some]
      rw [hw, hx, hlast k (by simp at hk; omega), if_neg e10]
      simp only [wordsF, if_neg e10, if_pos e]
    · rw [if_neg (fun h => e (h32.1 h))]
      by_cases e10 : c = 10
      · have hb : (((c.toNat : Int)) == 10) = true := by rw [beq_iff_eq]; exact h10.2 e10
        rw [hb]
        simp only [shaleref19_words.j1]
        rw [if_pos trivial, if_pos (by omega), if_pos (by omega), hs, if_pos (by omega), if_pos (by omega)]
        simp only [Option.bind_some]
        rw [hw, hx, hlast k (by simp at hk; omega), if_pos e10]
        simp only [wordsF, if_pos e10]
      · have hb : (((c.toNat : Int)) == 10) = false := by rw [beq_eq_false_iff_ne]; exact fun h => e10 (h10.1 h)
        rw [hb]
        simp only [shaleref19_words.j1]
        rw [if_neg (by simp), hw]
        have ih := words_from r a (cur ++ [c]) acc k (by simp at hk; omega) (by simp at hn ⊢; omega) (by simp at ha ⊢; omega)
        have e1 : ((a ++ (cur ++ [c])).length : Int) = ((a ++ cur).length : Int) + 1 := by simp; omega
        have e3 : a ++ (cur ++ [c]) ++ r = a ++ cur ++ c :: r := by simp
        rw [e1, e3] at ih
        rw [ih]
        simp only [wordsF, if_neg e10, if_neg e]
theorem words_f (s : List UInt8) (hn : s.length ≤ 1099511627776) : shaleref19_words.f (2 * s.length + 3) (bs s) = some ((wordsF [] s).map bs) := by
  have := words_from s [] [] [] (2 * s.length + 3) (by omega) (by simpa using hn) (by simp)
  unfold shaleref19_words.f
  simpa using this
theorem wordsF_spl : ∀ (r cur : List UInt8), (10 : UInt8) ∉ r → wordsF cur r = (match spl r with | [] => [] | h :: t => (cur ++ h) :: t) ∧ wordsF cur (r ++ [10]) = (match spl r with | [] => [] | h :: t => (cur ++ h) :: t)
  | [], cur, _ => by simp [wordsF, spl]
  | c :: r, cur, h => by
    simp only [List.mem_cons, not_or] at h
    have hc : ¬ c = 10 := fun e => h.1 e.symm
    by_cases e : c = 32
    · subst e
      obtain ⟨ih1, ih2⟩ := wordsF_spl r [] h.2
      have hs : spl (32 :: r) = [] :: spl r := by rw [spl, if_pos rfl]
      simp only [wordsF, List.cons_append, if_neg hc, if_pos, hs, ih1, ih2]
      cases hr : spl r with
      | nil => exact absurd hr (spl_ne r)
      | cons x y => simp
    · obtain ⟨ih1, ih2⟩ := wordsF_spl r (cur ++ [c]) h.2
      simp only [wordsF, List.cons_append, if_neg hc, if_neg e, ih1, ih2]
      rw [spl, if_neg e]
      cases hr : spl r with
      | nil => exact absurd hr (spl_ne r)
      | cons x y => simp
theorem wordsF_line (s : List UInt8) : wordsF [] (lineL s).1 = match brk 10 s with | none => spl s | some p => spl p.1 := by
  unfold lineL
  cases hb : brk 10 s with
  | none =>
    simp only
    rw [(wordsF_spl s [] (brk_none hb)).1]
    cases hr : spl s with
    | nil => rfl
    | cons x y => simp
  | some p =>
    obtain ⟨a, b⟩ := p
    simp only
    rw [(wordsF_spl a [] (brk_some hb).2).2]
    cases hr : spl a with
    | nil => rfl
    | cons x y => simp
end Go.Proofs.YtioapjnaopnhaaaDoor
