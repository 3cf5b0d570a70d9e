/- No program: the reading of a report's text ('readL'), as the program goes about it, and what it says: readL t = ok r just if t is what Show writes of r. No conditions. -/
import Derived.Test.YtioapjnaopnhaaaDoorText
set_option linter.unusedSimpArgs false
namespace Go.Proofs.YtioapjnaopnhaaaDoor
open Go.Lib

def nextL (k : Nat) (t : List UInt8) : Option (List (List UInt8) × List UInt8) :=
  match brk 10 t with
  | none => none
  | some p => if (spl p.1).length = k then some (spl p.1, p.2) else none

def cntL (word t : List UInt8) : Option (Int × List UInt8) :=
  match nextL 2 t with
  | none => none
  | some p => if p.1.getD 0 [] = word then (canI (p.1.getD 1 [])).map (fun n => (n, p.2)) else none

def floorL (t : List UInt8) : Option (Nat × List UInt8) :=
  match nextL 2 t with
  | none => none
  | some p => if p.1.getD 0 [] = [102, 108, 111, 111, 114] then (canU (p.1.getD 1 [])).map (fun n => (n, p.2)) else none

def savL (t : List UInt8) : Option (Bool × List UInt8) :=
  match nextL 2 t with
  | none => none
  | some p => if p.1.getD 0 [] = [115, 97, 118, 101, 100] then (if p.1.getD 1 [] = [121, 101, 115] then some (true, p.2) else if p.1.getD 1 [] = [110, 111] then some (false, p.2) else none) else none

/-- the kind's word, looked for from k on -/
def kindFrom (x : List UInt8) : Nat → Nat → Option Nat
  | 0, _ => none
  | n + 1, k => if wordsL.getD k [] = x then some k else kindFrom x n (k + 1)
def kindL (x : List UInt8) : Option Int :=
  match kindFrom x 9 1 with
  | some k => some (k : Int)
  | none => match canI x with
    | some k => if nameL k = x then some k else none
    | none => none

def finL (t : List UInt8) : Option (Fnd × List UInt8) :=
  match nextL 4 t with
  | none => none
  | some p => match kindL (p.1.getD 0 []) with
    | none => none
    | some k => match canI (p.1.getD 1 []) with
      | none => none
      | some b => match canI (p.1.getD 2 []) with
        | none => none
        | some q => match canI (p.1.getD 3 []) with
          | none => none
          | some o => some (⟨k, b, q, o⟩, p.2)

def finsL : Nat → Nat → List UInt8 → Except Nat (List Fnd)
  | 0, n, t => if t = [] then .ok [] else .error n
  | fuel + 1, n, t => if t = [] then .ok [] else match finL t with
    | none => .error n
    | some p => match finsL fuel (n + 1) p.2 with
      | .error m => .error m
      | .ok fs => .ok (p.1 :: fs)

def readL (t : List UInt8) : Except Nat Rep :=
  match floorL t with
  | none => .error 1
  | some p1 => match cntL [99, 111, 117, 110, 116, 101, 100] p1.2 with
    | none => .error 2
    | some p2 => match cntL [108, 105, 118, 101] p2.2 with
      | none => .error 3
      | some p3 => match cntL [117, 115, 101, 100] p3.2 with
        | none => .error 4
        | some p4 => match cntL [98, 97, 100] p4.2 with
          | none => .error 5
          | some p5 => match savL p5.2 with
            | none => .error 6
            | some p6 => match finsL p6.2.length 7 p6.2 with
              | .error n => .error n
              | .ok fs => .ok ⟨(p1.1 : Int), p2.1, p3.1, p4.1, p5.1, p6.1, fs⟩

/-! ### What they say -/
theorem next_some {k : Nat} {t : List UInt8} {ws : List (List UInt8)} {b : List UInt8} (h : nextL k t = some (ws, b)) : t = joinSp ws ++ 10 :: b ∧ ws.length = k := by
  unfold nextL at h
  split at h
  · cases h
  · rename_i p hp
    obtain ⟨a, b'⟩ := p
    split at h
    · rename_i hl
      injection h with h; injection h with h1 h2
      subst h1 h2
      obtain ⟨e, _⟩ := brk_some hp
      exact ⟨by rw [joinSp_spl]; exact e, hl⟩
    · cases h
theorem next_two {x y b : List UInt8} (hx : (32 : UInt8) ∉ x) (hx2 : (10 : UInt8) ∉ x) (hy : (32 : UInt8) ∉ y) (hy2 : (10 : UInt8) ∉ y) : nextL 2 (x ++ 32 :: (y ++ 10 :: b)) = some ([x, y], b) := by
  have h1 : brk 10 (x ++ 32 :: (y ++ 10 :: b)) = some (x ++ 32 :: y, b) := by
    have := brk_app (c := 10) (a := x ++ 32 :: y) b (by simp [hx2, hy2])
    simpa using this
  have h2 : spl (x ++ 32 :: y) = [x, y] := by rw [spl_app _ hx, spl_not hy]
  unfold nextL
  rw [h1]
  simp [h2]
theorem next_four {x y z u b : List UInt8} (hx : (32 : UInt8) ∉ x) (hx2 : (10 : UInt8) ∉ x) (hy : (32 : UInt8) ∉ y) (hy2 : (10 : UInt8) ∉ y) (hz : (32 : UInt8) ∉ z) (hz2 : (10 : UInt8) ∉ z) (hu : (32 : UInt8) ∉ u) (hu2 : (10 : UInt8) ∉ u) :
    nextL 4 (x ++ 32 :: (y ++ 32 :: (z ++ 32 :: (u ++ 10 :: b)))) = some ([x, y, z, u], b) := by
  have h1 : brk 10 (x ++ 32 :: (y ++ 32 :: (z ++ 32 :: (u ++ 10 :: b)))) = some (x ++ 32 :: (y ++ 32 :: (z ++ 32 :: u)), b) := by
    have := brk_app (c := 10) (a := x ++ 32 :: (y ++ 32 :: (z ++ 32 :: u))) b (by simp [hx2, hy2, hz2, hu2])
    simpa using this
  have h2 : spl (x ++ 32 :: (y ++ 32 :: (z ++ 32 :: u))) = [x, y, z, u] := by rw [spl_app _ hx, spl_app _ hy, spl_app _ hz, spl_not hu]
  unfold nextL
  rw [h1]
  simp [h2]

theorem itoa_no32 (n : Int) : (32 : UInt8) ∉ itoa n := fun h => (itoa_mem n 32 h).1 rfl
theorem itoa_no10 (n : Int) : (10 : UInt8) ∉ itoa n := fun h => (itoa_mem n 10 h).2 rfl

theorem cnt_iff {word t b : List UInt8} {n : Int} (hw : (32 : UInt8) ∉ word) (hw2 : (10 : UInt8) ∉ word) : cntL word t = some (n, b) ↔ t = word ++ 32 :: (itoa n ++ 10 :: b) ∧ I64 n := by
  constructor
  · intro h
    unfold cntL at h
    split at h
    · cases h
    · rename_i p hp
      obtain ⟨ws, b'⟩ := p
      obtain ⟨e, hl⟩ := next_some hp
      match ws, hl with
      | [x, y], _ =>
        split at h
        · rename_i hx
          simp only [Option.map_eq_some_iff] at h
          obtain ⟨m, hm, h⟩ := h
          injection h with h1 h2
          subst h1 h2
          obtain ⟨hy, hb⟩ := canI_some.1 hm
          simp at hx hy
          subst hx hy
          exact ⟨by rw [e]; simp [joinSp], hb⟩
        · cases h
  · rintro ⟨rfl, hn⟩
    unfold cntL
    rw [next_two hw hw2 (itoa_no32 n) (itoa_no10 n)]
    simp [canI_some.2 ⟨rfl, hn⟩]
theorem floor_iff {t b : List UInt8} {n : Nat} : floorL t = some (n, b) ↔ t = [102, 108, 111, 111, 114] ++ 32 :: (itoa (n : Int) ++ 10 :: b) ∧ n ≤ 18446744073709551615 := by
  constructor
  · intro h
    unfold floorL at h
    split at h
    · cases h
    · rename_i p hp
      obtain ⟨ws, b'⟩ := p
      obtain ⟨e, hl⟩ := next_some hp
      match ws, hl with
      | [x, y], _ =>
        split at h
        · rename_i hx
          simp only [Option.map_eq_some_iff] at h
          obtain ⟨m, hm, h⟩ := h
          injection h with h1 h2
          subst h1 h2
          obtain ⟨hy, hb⟩ := canU_some.1 hm
          simp at hx hy
          subst hx hy
          exact ⟨by rw [e]; simp [joinSp], hb⟩
        · cases h
  · rintro ⟨rfl, hn⟩
    unfold floorL
    rw [next_two (by decide) (by decide) (itoa_no32 n) (itoa_no10 n)]
    simp [canU_some.2 ⟨rfl, hn⟩]
theorem sav_iff {t b : List UInt8} {s : Bool} : savL t = some (s, b) ↔ t = yesL s ++ b := by
  constructor
  · intro h
    unfold savL at h
    split at h
    · cases h
    · rename_i p hp
      obtain ⟨ws, b'⟩ := p
      obtain ⟨e, hl⟩ := next_some hp
      match ws, hl with
      | [x, y], _ =>
        split at h
        · rename_i hx
          split at h
          · rename_i hy
            injection h with h; injection h with h1 h2
            subst h1 h2
            simp at hx hy
            subst hx hy
            rw [e]; simp [joinSp, yesL]
          · split at h
            · rename_i hy
              injection h with h; injection h with h1 h2
              subst h1 h2
              simp at hx hy
              subst hx hy
              rw [e]; simp [joinSp, yesL]
            · cases h
        · cases h
  · rintro rfl
    have e : yesL s ++ b = [115, 97, 118, 101, 100] ++ 32 :: ((if s then [121, 101, 115] else [110, 111]) ++ 10 :: b) := by cases s <;> simp [yesL]
    unfold savL
    rw [e, next_two (by decide) (by decide) (by cases s <;> simp) (by cases s <;> simp)]
    cases s <;> simp

theorem kindFrom_some {x : List UInt8} : ∀ {n k m : Nat}, kindFrom x n k = some m → k ≤ m ∧ m < k + n ∧ wordsL.getD m [] = x
  | 0, _, _, h => by cases h
  | n + 1, k, m, h => by
    simp only [kindFrom] at h
    split at h
    · injection h with h; subst h; rename_i e; exact ⟨by omega, by omega, e⟩
    · obtain ⟨h1, h2, h3⟩ := kindFrom_some h; exact ⟨by omega, by omega, h3⟩
theorem kindFrom_none {x : List UInt8} : ∀ {n k : Nat}, kindFrom x n k = none → ∀ m, k ≤ m → m < k + n → wordsL.getD m [] ≠ x
  | 0, _, _, m, h1, h2 => by omega
  | n + 1, k, h, m, h1, h2 => by
    simp only [kindFrom] at h
    split at h
    · cases h
    · rename_i e
      by_cases hm : m = k
      · subst hm; exact e
      · exact kindFrom_none h m (by omega) (by omega)
theorem nameL_in (k : Int) (h : 1 ≤ k ∧ k ≤ 9) : nameL k = wordsL.getD k.toNat [] := by
  have : k = 1 ∨ k = 2 ∨ k = 3 ∨ k = 4 ∨ k = 5 ∨ k = 6 ∨ k = 7 ∨ k = 8 ∨ k = 9 := by omega
  rcases this with rfl | rfl | rfl | rfl | rfl | rfl | rfl | rfl | rfl <;> rfl
theorem nameL_out (k : Int) (h : ¬ (1 ≤ k ∧ k ≤ 9)) : nameL k = itoa k := by
  unfold nameL wordL
  rw [if_neg h]
  simp
theorem wordL_head : ∀ m, 1 ≤ m → m < 10 → ∃ c r, wordsL.getD m [] = c :: r ∧ 97 ≤ c.toNat := by
  intro m h1 h2
  have : m = 1 ∨ m = 2 ∨ m = 3 ∨ m = 4 ∨ m = 5 ∨ m = 6 ∨ m = 7 ∨ m = 8 ∨ m = 9 := by omega
  rcases this with rfl | rfl | rfl | rfl | rfl | rfl | rfl | rfl | rfl <;> exact ⟨_, _, rfl, by decide⟩
theorem itoa_head (n : Int) : ∃ c r, itoa n = c :: r ∧ c.toNat < 97 := by
  unfold itoa
  split
  · exact ⟨_, _, rfl, by decide⟩
  · obtain ⟨c, r, h, _, h2⟩ := decDigits_head n.toNat
    exact ⟨c, r, h, by omega⟩
theorem kind_iff {x : List UInt8} {k : Int} : kindL x = some k ↔ x = nameL k ∧ I64 k := by
  unfold kindL
  constructor
  · intro h
    split at h
    · rename_i m hm
      injection h with h
      subst h
      obtain ⟨h1, h2, h3⟩ := kindFrom_some hm
      exact ⟨by rw [nameL_in _ (by omega)]; simpa using h3.symm, by constructor <;> omega⟩
    · split at h
      · rename_i m hm
        split at h
        · rename_i e
          injection h with h
          subst h
          exact ⟨e.symm, (canI_some.1 hm).2⟩
        · cases h
      · cases h
  · rintro ⟨rfl, hk⟩
    by_cases h : 1 ≤ k ∧ k ≤ 9
    · have : k = 1 ∨ k = 2 ∨ k = 3 ∨ k = 4 ∨ k = 5 ∨ k = 6 ∨ k = 7 ∨ k = 8 ∨ k = 9 := by omega
      rcases this with rfl | rfl | rfl | rfl | rfl | rfl | rfl | rfl | rfl <;> rfl
    · have hn : kindFrom (nameL k) 9 1 = none := by
        cases hf : kindFrom (nameL k) 9 1 with
        | none => rfl
        | some m =>
          obtain ⟨h1, h2, h3⟩ := kindFrom_some hf
          obtain ⟨c, r, e, hc⟩ := wordL_head m h1 (by omega)
          obtain ⟨c', r', e', hc'⟩ := itoa_head k
          rw [e, nameL_out k h, e'] at h3
          injection h3 with h3
          subst h3
          omega
      rw [hn]
      simp only
      rw [canI_some.2 ⟨nameL_out k h, hk⟩]
      simp
theorem nameL_mem (k : Int) : (32 : UInt8) ∉ nameL k ∧ (10 : UInt8) ∉ nameL k := by
  by_cases h : 1 ≤ k ∧ k ≤ 9
  · have : k = 1 ∨ k = 2 ∨ k = 3 ∨ k = 4 ∨ k = 5 ∨ k = 6 ∨ k = 7 ∨ k = 8 ∨ k = 9 := by omega
    rcases this with rfl | rfl | rfl | rfl | rfl | rfl | rfl | rfl | rfl <;> decide
  · rw [nameL_out k h]
    exact ⟨itoa_no32 k, itoa_no10 k⟩
theorem rowL_cons (f : Fnd) (b : List UInt8) : rowL f ++ b = nameL f.k ++ 32 :: (itoa f.b ++ 32 :: (itoa f.p ++ 32 :: (itoa f.o ++ 10 :: b))) := by
  simp [rowL, nameL]
theorem fin_iff {t b : List UInt8} {f : Fnd} : finL t = some (f, b) ↔ t = rowL f ++ b ∧ f.wf := by
  constructor
  · intro h
    unfold finL at h
    split at h
    · cases h
    · rename_i p hp
      obtain ⟨ws, b'⟩ := p
      obtain ⟨e, hl⟩ := next_some hp
      match ws, hl with
      | [x, y, z, u], _ =>
        split at h
        · cases h
        · rename_i k hk
          split at h
          · cases h
          · rename_i b1 h1
            split at h
            · cases h
            · rename_i b2 h2
              split at h
              · cases h
              · rename_i b3 h3
                injection h with h; injection h with h4 h5
                subst h4 h5
                simp at hk h1 h2 h3
                obtain ⟨e0, w0⟩ := kind_iff.1 hk
                obtain ⟨e1, w1⟩ := canI_some.1 h1
                obtain ⟨e2, w2⟩ := canI_some.1 h2
                obtain ⟨e3, w3⟩ := canI_some.1 h3
                subst e0 e1 e2 e3
                refine ⟨?_, w0, w1, w2, w3⟩
                rw [e, rowL_cons]
                simp [joinSp]
  · rintro ⟨rfl, w0, w1, w2, w3⟩
    unfold finL
    rw [rowL_cons, next_four (nameL_mem _).1 (nameL_mem _).2 (itoa_no32 _) (itoa_no10 _) (itoa_no32 _) (itoa_no10 _) (itoa_no32 _) (itoa_no10 _)]
    simp [kind_iff.2 ⟨rfl, w0⟩, canI_some.2 ⟨rfl, w1⟩, canI_some.2 ⟨rfl, w2⟩, canI_some.2 ⟨rfl, w3⟩]

theorem fins_ok : ∀ {fuel n : Nat} {t : List UInt8} {fs : List Fnd}, finsL fuel n t = .ok fs → t = (fs.map rowL).flatten ∧ ∀ f ∈ fs, f.wf
  | 0, n, t, fs, h => by
    simp only [finsL] at h
    split at h
    · injection h with h; subst h; rename_i e; subst e; simp
    · cases h
  | fuel + 1, n, t, fs, h => by
    simp only [finsL] at h
    split at h
    · injection h with h; subst h; rename_i e; subst e; simp
    · split at h
      · cases h
      · rename_i p hp
        obtain ⟨f, b⟩ := p
        split at h
        · cases h
        · rename_i gs hg
          injection h with h; subst h
          obtain ⟨e, hf⟩ := fin_iff.1 hp
          obtain ⟨e2, hgs⟩ := fins_ok hg
          simp only at e2
          refine ⟨by rw [e, e2]; simp, ?_⟩
          intro x hx
          rcases List.mem_cons.1 hx with rfl | hx
          · exact hf
          · exact hgs x hx
theorem rowL_ne (f : Fnd) : 1 ≤ (rowL f).length := by simp [rowL]; omega
theorem fins_mk : ∀ {fuel n : Nat} {fs : List Fnd}, (∀ f ∈ fs, f.wf) → ((fs.map rowL).flatten).length ≤ fuel → finsL fuel n ((fs.map rowL).flatten) = .ok fs
  | 0, n, fs, hf, hl => by
    cases fs with
    | nil => simp [finsL]
    | cons f fs => have := rowL_ne f; simp at hl; rw [hl.1] at this; simp at this
  | fuel + 1, n, fs, hf, hl => by
    cases fs with
    | nil => simp [finsL]
    | cons f fs =>
      have h1 := rowL_ne f
      have ih := fins_mk (fuel := fuel) (n := n + 1) (fs := fs) (fun x hx => hf x (List.mem_cons_of_mem _ hx)) (by simp at hl ⊢; omega)
      have hp : finL (((f :: fs).map rowL).flatten) = some (f, (fs.map rowL).flatten) := fin_iff.2 ⟨by simp, hf f List.mem_cons_self⟩
      simp only [finsL]
      rw [if_neg (by intro e; have := congrArg List.length e; simp at this; have := this.1; rw [this] at h1; simp at h1), hp]
      simp only
      rw [ih]
theorem fins_error : ∀ {fuel n m : Nat} {t : List UInt8}, finsL fuel n t = .error m → n ≤ m
  | 0, n, m, t, h => by
    simp only [finsL] at h
    split at h
    · cases h
    · injection h with h; omega
  | fuel + 1, n, m, t, h => by
    simp only [finsL] at h
    split at h
    · cases h
    · split at h
      · injection h with h; omega
      · split at h
        · rename_i hg
          injection h with h; subst h
          have := fins_error hg
          omega
        · cases h

theorem showL_eq (r : Rep) : showL r = [102, 108, 111, 111, 114] ++ 32 :: (itoa r.floor ++ 10 :: ([99, 111, 117, 110, 116, 101, 100] ++ 32 :: (itoa r.counted ++ 10 :: ([108, 105, 118, 101] ++ 32 :: (itoa r.live ++ 10 :: ([117, 115, 101, 100] ++ 32 :: (itoa r.used ++ 10 :: ([98, 97, 100] ++ 32 :: (itoa r.bad ++ 10 :: (yesL r.saved ++ (r.fs.map rowL).flatten)))))))))) := by
  simp [showL, headsL]

theorem read_ok {t : List UInt8} {r : Rep} (h : readL t = .ok r) : t = showL r ∧ r.wf := by
  unfold readL at h
  split at h
  · cases h
  rename_i p1 h1
  split at h
  · cases h
  rename_i p2 h2
  split at h
  · cases h
  rename_i p3 h3
  split at h
  · cases h
  rename_i p4 h4
  split at h
  · cases h
  rename_i p5 h5
  split at h
  · cases h
  rename_i p6 h6
  split at h
  · cases h
  rename_i fs h7
  injection h with h
  subst h
  obtain ⟨a1, b1⟩ := p1
  obtain ⟨a2, b2⟩ := p2
  obtain ⟨a3, b3⟩ := p3
  obtain ⟨a4, b4⟩ := p4
  obtain ⟨a5, b5⟩ := p5
  obtain ⟨a6, b6⟩ := p6
  obtain ⟨e1, w1⟩ := floor_iff.1 h1
  obtain ⟨e2, w2⟩ := (cnt_iff (by decide) (by decide)).1 h2
  obtain ⟨e3, w3⟩ := (cnt_iff (by decide) (by decide)).1 h3
  obtain ⟨e4, w4⟩ := (cnt_iff (by decide) (by decide)).1 h4
  obtain ⟨e5, w5⟩ := (cnt_iff (by decide) (by decide)).1 h5
  have e6 := sav_iff.1 h6
  obtain ⟨e7, w7⟩ := fins_ok h7
  dsimp only at e1 e2 e3 e4 e5 e6 e7
  refine ⟨?_, ⟨by dsimp only; omega, by dsimp only; omega⟩, w2, w3, w4, w5, w7⟩
  rw [showL_eq, e1, e2, e3, e4, e5, e6, e7]

theorem read_show {r : Rep} (h : r.wf) : readL (showL r) = .ok r := by
  obtain ⟨fl, ct, lv, us, bd, sv, fs⟩ := r
  obtain ⟨⟨w0, w0'⟩, w1, w2, w3, w4, w5⟩ := h
  dsimp only at w0 w0' w1 w2 w3 w4 w5
  obtain ⟨u, rfl⟩ : ∃ u : Nat, fl = (u : Int) := ⟨fl.toNat, by omega⟩
  rw [showL_eq]
  unfold readL
  rw [floor_iff.2 ⟨rfl, by omega⟩]
  dsimp only
  rw [(cnt_iff (by decide) (by decide)).2 ⟨rfl, w1⟩]
  dsimp only
  rw [(cnt_iff (by decide) (by decide)).2 ⟨rfl, w2⟩]
  dsimp only
  rw [(cnt_iff (by decide) (by decide)).2 ⟨rfl, w3⟩]
  dsimp only
  rw [(cnt_iff (by decide) (by decide)).2 ⟨rfl, w4⟩]
  dsimp only
  rw [sav_iff.2 rfl]
  dsimp only
  rw [fins_mk w5 (Nat.le_refl _)]

theorem read_error {t : List UInt8} {n : Nat} (h : readL t = .error n) : 1 ≤ n := by
  unfold readL at h
  split at h
  · injection h with h; omega
  split at h
  · injection h with h; omega
  split at h
  · injection h with h; omega
  split at h
  · injection h with h; omega
  split at h
  · injection h with h; omega
  split at h
  · injection h with h; omega
  split at h
  · rename_i hg
    injection h with h; subst h
    have := fins_error hg
    omega
  · cases h
end Go.Proofs.YtioapjnaopnhaaaDoor
