/- No program: what a report's text says, in plain Lean. Lines, words, numbers as Show writes them, and the whole reading 'readS'. No conditions. -/
import Derived.Test.YtioapjnaopnhaaaDoorShowProg
import Derived.Lib.Split
import Derived.Lib.AtoiAllCases
import Derived.Lib.ParseIntB
import Derived.Lib.ItoaMem
namespace Go.Proofs.YtioapjnaopnhaaaDoor
open Go.Lib

/-! ### Cutting at a byte -/
def brk (c : UInt8) : List UInt8 → Option (List UInt8 × List UInt8)
  | [] => none
  | x :: r => if x = c then some ([], r) else (brk c r).map fun p => (x :: p.1, p.2)

theorem brk_none {c : UInt8} : ∀ {s : List UInt8}, brk c s = none → c ∉ s
  | [], _ => by simp
  | x :: r, h => by
    simp only [brk] at h
    split at h
    · cases h
    · rename_i hx
      simp only [Option.map_eq_none_iff] at h
      have := brk_none h
      simp only [List.mem_cons, not_or]
      exact ⟨fun e => hx e.symm, this⟩
theorem brk_some {c : UInt8} : ∀ {s a b : List UInt8}, brk c s = some (a, b) → s = a ++ c :: b ∧ c ∉ a
  | [], _, _, h => by cases h
  | x :: r, a, b, h => by
    simp only [brk] at h
    split at h
    · rename_i hx
      injection h with h; injection h with h1 h2
      subst h1 h2 hx
      exact ⟨rfl, by simp⟩
    · rename_i hx
      simp only [Option.map_eq_some_iff] at h
      obtain ⟨⟨a', b'⟩, h1, h2⟩ := h
      injection h2 with h2 h3
      subst h2 h3
      obtain ⟨e, hn⟩ := brk_some h1
      refine ⟨by rw [e]; rfl, ?_⟩
      simp only [List.mem_cons, not_or]
      exact ⟨fun e => hx e.symm, hn⟩
theorem brk_app {c : UInt8} : ∀ {a : List UInt8} (b : List UInt8), c ∉ a → brk c (a ++ c :: b) = some (a, b)
  | [], b, _ => by simp [brk]
  | x :: a, b, h => by
    simp only [List.mem_cons, not_or] at h
    have := brk_app (c := c) b h.2
    have hx : ¬ x = c := fun e => h.1 e.symm
    simp [brk, this, hx]
theorem brk_not {c : UInt8} : ∀ {s : List UInt8}, c ∉ s → brk c s = none
  | [], _ => rfl
  | x :: r, h => by
    simp only [List.mem_cons, not_or] at h
    have hx : ¬ x = c := fun e => h.1 e.symm
    simp [brk, brk_not h.2, hx]

theorem index_brk (c : UInt8) : ∀ (s : List UInt8), index s [c] = match brk c s with | none => -1 | some p => (p.1.length : Int)
  | [] => rfl
  | x :: r => by
    rw [index_one]
    have ih := index_brk c r
    rw [index_one] at ih
    simp only [indexByte, brk]
    by_cases h : x = c
    · subst h; simp
    · have hb : (x == c) = false := by simpa using h
      rw [hb, if_neg (by simp), if_neg h, ih]
      cases hbr : brk c r with
      | none => simp
      | some p =>
        have : ((p.1.length : Int) == -1) = false := by rw [beq_eq_false_iff_ne]; omega
        simp only [this, Bool.false_eq_true, if_false, Option.map_some, List.length_cons]
        rw [Int.natCast_add]; rfl

theorem cut_brk (c : UInt8) (s : List UInt8) : cut s [c] = match brk c s with | none => (s, [], false) | some p => (p.1, p.2, true) := by
  have h := index_brk c s
  unfold cut
  cases hb : brk c s with
  | none => rw [hb] at h; simp [h]
  | some p =>
    obtain ⟨a, b⟩ := p
    obtain ⟨e, _⟩ := brk_some hb
    rw [hb] at h
    simp only at h
    rw [h, if_pos (by omega)]
    subst e
    simp

/-- the pieces between blanks -/
def spl : List UInt8 → List (List UInt8)
  | [] => [[]]
  | c :: r => if c = 32 then [] :: spl r else match spl r with | [] => [[c]] | h :: t => (c :: h) :: t

theorem spl_ne : ∀ (l : List UInt8), spl l ≠ []
  | [] => by simp [spl]
  | c :: r => by
    unfold spl
    split
    · simp
    · split <;> simp
theorem spl_not : ∀ {l : List UInt8}, (32 : UInt8) ∉ l → spl l = [l]
  | [], _ => rfl
  | c :: r, h => by
    simp only [List.mem_cons, not_or] at h
    unfold spl
    rw [if_neg (fun e => h.1 e.symm), spl_not h.2]
theorem spl_app : ∀ {a : List UInt8} (b : List UInt8), (32 : UInt8) ∉ a → spl (a ++ 32 :: b) = a :: spl b
  | [], b, _ => by simp [spl]
  | x :: a, b, h => by
    simp only [List.mem_cons, not_or] at h
    have := spl_app b h.2
    have e : spl (x :: (a ++ 32 :: b)) = (if x = 32 then [] :: spl (a ++ 32 :: b) else match spl (a ++ 32 :: b) with | [] => [[x]] | h :: t => (x :: h) :: t) := rfl
    rw [List.cons_append, e, if_neg (fun e => h.1 e.symm), this]

theorem splitK_spl : ∀ (n : Nat) (s : List UInt8), s.length ≤ n → splitK [32] 0 (count s [32]) s = spl s
  | n, s, hn => by
    have hi := index_brk 32 s
    cases hb : brk 32 s with
    | none =>
      rw [hb] at hi
      rw [count_miss hi]
      simp [splitK, spl_not (brk_none hb)]
    | some p =>
      obtain ⟨a, b⟩ := p
      obtain ⟨e, ha⟩ := brk_some hb
      rw [hb] at hi
      simp only at hi
      have hd : s.drop (a.length + 1) = b := by subst e; simp [List.drop_append]
      have ht : s.take a.length = a := by subst e; simp
      have hc : count s [32] = 1 + count b [32] := by
        have := count_hit (s := s) (sub := [32]) (i := a.length) (by simp) hi
        rw [List.length_singleton, hd] at this
        exact this
      cases n with
      | zero => subst e; simp at hn
      | succ n =>
        have ih := splitK_spl n b (by subst e; simp at hn; omega)
        rw [hc, Nat.add_comm 1]
        have hm : ((a.length : Int) == -1) = false := by rw [beq_eq_false_iff_ne]; omega
        simp only [splitK, hi, hm, Bool.false_eq_true, if_false, List.length_singleton, Int.toNat_natCast, Nat.add_zero, ht, hd]
        rw [ih, e, spl_app _ ha]

/-- pieces laid end to end with blanks -/
def joinSp : List (List UInt8) → List UInt8
  | [] => []
  | [a] => a
  | a :: r => a ++ 32 :: joinSp r
theorem joinSp_spl : ∀ (l : List UInt8), joinSp (spl l) = l
  | [] => rfl
  | c :: r => by
    have ih := joinSp_spl r
    unfold spl
    split
    · rename_i h
      subst h
      cases hs : spl r with
      | nil => exact absurd hs (spl_ne r)
      | cons h t => rw [hs] at ih; simp [joinSp, ih]
    · cases hs : spl r with
      | nil => exact absurd hs (spl_ne r)
      | cons h t =>
        rw [hs] at ih
        cases t with
        | nil => simp only [joinSp] at ih ⊢; rw [ih]
        | cons h' t' => simp only [joinSp] at ih ⊢; rw [← ih]; rfl
theorem spl_mem : ∀ (l : List UInt8), ∀ x ∈ spl l, (32 : UInt8) ∉ x
  | [], x, h => by simp [spl] at h; subst h; simp
  | c :: r, x, h => by
    have ih := spl_mem r
    unfold spl at h
    split at h
    · rcases List.mem_cons.1 h with rfl | h
      · simp
      · exact ih x h
    · rename_i hc
      cases hs : spl r with
      | nil => exact absurd hs (spl_ne r)
      | cons a t =>
        rw [hs] at h
        rw [hs] at ih
        rcases List.mem_cons.1 h with rfl | h
        · have := ih a List.mem_cons_self
          simp only [List.mem_cons, not_or]
          exact ⟨fun e => hc e.symm, this⟩
        · exact ih x (List.mem_cons_of_mem _ h)
theorem spl_sub : ∀ (l : List UInt8) (c : UInt8), c ∉ l → ∀ x ∈ spl l, c ∉ x
  | [], c, _, x, h => by simp [spl] at h; subst h; simp
  | d :: r, c, hc, x, h => by
    simp only [List.mem_cons, not_or] at hc
    have ih := spl_sub r c hc.2
    unfold spl at h
    split at h
    · rcases List.mem_cons.1 h with rfl | h
      · simp
      · exact ih x h
    · cases hs : spl r with
      | nil => exact absurd hs (spl_ne r)
      | cons a t =>
        rw [hs] at h
        rw [hs] at ih
        rcases List.mem_cons.1 h with rfl | h
        · have := ih a List.mem_cons_self
          simp only [List.mem_cons, not_or]
          exact ⟨hc.1, this⟩
        · exact ih x (List.mem_cons_of_mem _ h)

/-! ### Numbers -/
theorem parseM_app (M : Nat) : ∀ (l r : List UInt8) (acc : Nat), parseUintM M acc (l ++ r) = match parseUintM M acc l with | .ok v => parseUintM M v r | e => e
  | [], r, acc => rfl
  | c :: l, r, acc => by
    simp only [List.cons_append, parseUintM]
    split
    · split
      · rfl
      · split
        · rfl
        · exact parseM_app M l r _
    · rfl

theorem decDigits_ne (u : Nat) : decDigits u ≠ [] := by
  rw [decDigits]; split <;> simp
theorem parseM_dec (M : Nat) (hM : M ≤ 18446744073709551615) : ∀ (u : Nat), u ≤ M → parseUintM M 0 (decDigits u) = .ok u := by
  intro u
  induction u using Nat.strongRecOn with
  | ind u ih =>
    intro hu
    rw [decDigits]
    split
    · rename_i h
      have : (UInt8.ofNat (48 + u)).toNat = 48 + u := by simp; omega
      simp only [parseUintM, this]
      rw [if_pos (by omega), if_neg (by omega), if_neg (by omega)]
      congr 1; omega
    · rename_i h
      have hd : (UInt8.ofNat (48 + u % 10)).toNat = 48 + u % 10 := by simp; omega
      rw [parseM_app, ih (u / 10) (by omega) (by omega)]
      simp only [parseUintM, hd]
      rw [if_pos (by omega), if_neg (by omega), if_neg (by omega)]
      congr 1; omega
theorem parseB_dec (u : Nat) (hu : u ≤ 18446744073709551615) : parseUintB 64 (decDigits u) = .ok u := by
  unfold parseUintB
  rw [if_neg (decDigits_ne u)]
  exact parseM_dec _ (by decide) u (by simpa using hu)
theorem parse10_eq : ∀ (l : List UInt8) (acc : Nat), parseUint10 acc l = parseUintM 18446744073709551615 acc l
  | [], _ => rfl
  | c :: r, acc => by
    simp only [parseUint10, parseUintM]
    split
    · split
      · rfl
      · split
        · rw [if_pos (by omega)]
        · rw [if_neg (by omega)]; exact parse10_eq r _
    · rfl
theorem parseMag_eq (l : List UInt8) : parseMag l = parseUintB 64 l := by
  unfold parseMag parseUintB
  split
  · rfl
  · rw [parse10_eq]

theorem decDigits_head (u : Nat) : ∃ c r, decDigits u = c :: r ∧ 48 ≤ c.toNat ∧ c.toNat ≤ 57 := by
  induction u using Nat.strongRecOn with
  | ind u ih =>
    rw [decDigits]
    split
    · exact ⟨_, [], rfl, by simp; omega, by simp; omega⟩
    · obtain ⟨c, r, h, h1, h2⟩ := ih (u / 10) (by omega)
      exact ⟨c, r ++ [UInt8.ofNat (48 + u % 10)], by rw [h]; rfl, h1, h2⟩
theorem decDigits_mem (u : Nat) : ∀ c ∈ decDigits u, 48 ≤ c.toNat ∧ c.toNat ≤ 57 := by
  induction u using Nat.strongRecOn with
  | ind u ih =>
    rw [decDigits]
    split
    · intro c hc
      simp only [List.mem_singleton] at hc
      subst hc
      exact ⟨by simp; omega, by simp; omega⟩
    · intro c hc
      rcases List.mem_append.1 hc with h | h
      · exact ih (u / 10) (by omega) c h
      · simp only [List.mem_singleton] at h
        subst h
        exact ⟨by simp; omega, by simp; omega⟩
theorem itoa_mem (n : Int) : ∀ c ∈ itoa n, c ≠ 32 ∧ c ≠ 10 := by
  have key : ∀ u : Nat, ∀ c ∈ decDigits u, c ≠ 32 ∧ c ≠ 10 := fun u c hc => by
    have := decDigits_mem u c hc
    exact ⟨fun e => by subst e; simp at this, fun e => by subst e; simp at this⟩
  intro c hc
  unfold itoa at hc
  split at hc
  · rcases List.mem_cons.1 hc with rfl | h
    · exact ⟨by decide, by decide⟩
    · exact key _ c h
  · exact key _ c hc

theorem atoi_itoa (n : Int) (hn : I64 n) : atoiAll (itoa n) = .ok n := by
  obtain ⟨h0, h1⟩ := hn
  unfold itoa
  split
  · rename_i h
    simp only [atoiAll]
    rw [parseMag_eq]
    simp only [show (45 : UInt8).toNat = 45 from rfl, or_true, if_true]
    rw [parseB_dec _ (by omega)]
    simp only [not_true, false_and, if_false, true_and]
    rw [if_neg (by omega)]
    congr 1; omega
  · rename_i h
    obtain ⟨c, r, hd, hc0, hc1⟩ := decDigits_head n.toNat
    rw [hd]
    simp only [atoiAll]
    rw [if_neg (by omega), parseMag_eq, ← hd, parseB_dec _ (by omega)]
    simp only [show (c.toNat = 45) = False from eq_false (by omega), not_false_iff, true_and, false_and, if_false]
    rw [if_neg (by omega)]
    congr 1; omega
theorem atoi_bound {l : List UInt8} {n : Int} (h : atoiAll l = .ok n) : I64 n := by
  cases l with
  | nil => cases h
  | cons c r =>
    simp only [atoiAll] at h
    split at h
    · cases h
    · cases h
    · split at h
      · cases h
      · split at h
        · cases h
        · injection h with h
          subst h
          split <;> constructor <;> omega

/-- an int as Show writes it -/
def canI (x : List UInt8) : Option Int := match atoiAll x with | .ok n => if itoa n = x then some n else none | _ => none
/-- a uint64 as Show writes it -/
def canU (x : List UInt8) : Option Nat := match parseUintB 64 x with | .ok u => if itoa (u : Int) = x then some u else none | _ => none
theorem canI_some {x : List UInt8} {n : Int} : canI x = some n ↔ x = itoa n ∧ I64 n := by
  unfold canI
  constructor
  · intro h
    split at h
    · rename_i m hm
      split at h
      · injection h with h; subst h
        rename_i e
        exact ⟨e.symm, atoi_bound hm⟩
      · cases h
    · cases h
  · rintro ⟨rfl, h⟩
    rw [atoi_itoa n h]
    simp
theorem parseM_le {M : Nat} : ∀ {l : List UInt8} {acc u : Nat}, acc ≤ M → parseUintM M acc l = .ok u → u ≤ M
  | [], acc, u, ha, h => by simp only [parseUintM] at h; injection h with h; omega
  | c :: r, acc, u, ha, h => by
    simp only [parseUintM] at h
    split at h
    · split at h
      · cases h
      · split at h
        · cases h
        · exact parseM_le (by omega) h
    · cases h
theorem parseB_le {l : List UInt8} {u : Nat} (h : parseUintB 64 l = .ok u) : u ≤ 18446744073709551615 := by
  unfold parseUintB at h
  split at h
  · cases h
  · exact parseM_le (by omega) h
theorem canU_some {x : List UInt8} {u : Nat} : canU x = some u ↔ x = itoa (u : Int) ∧ u ≤ 18446744073709551615 := by
  unfold canU
  constructor
  · intro h
    split at h
    · rename_i m hm
      split at h
      · injection h with h; subst h
        rename_i e
        exact ⟨e.symm, parseB_le hm⟩
      · cases h
    · cases h
  · rintro ⟨rfl, h⟩
    rw [itoa_nonneg, parseB_dec u h]
    simp [itoa_nonneg]
end Go.Proofs.YtioapjnaopnhaaaDoor
