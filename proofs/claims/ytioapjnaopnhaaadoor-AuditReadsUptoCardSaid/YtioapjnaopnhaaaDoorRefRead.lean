/- No program: the document's own reading of a report's text ('readR', line by line, each line shown again) is 'readL'. No conditions. -/
import Derived.Test.YtioapjnaopnhaaaDoorRefNum
import Derived.Test.YtioapjnaopnhaaaDoorRefText
set_option linter.unusedSimpArgs false
set_option linter.unusedVariables false
namespace Go.Proofs.YtioapjnaopnhaaaDoor
open Go.Lib

theorem lineL_app (a b : List UInt8) (h : (10 : UInt8) ∉ a) : lineL (a ++ 10 :: b) = (a ++ [10], b) := by
  unfold lineL; rw [brk_app b h]
theorem lineL_some {t x : List UInt8} (h : (lineL t).1 = x ++ [10]) : (10 : UInt8) ∉ x ∧ t = x ++ 10 :: (lineL t).2 := by
  unfold lineL at h ⊢
  cases hb : brk 10 t with
  | none =>
    rw [hb] at h
    simp only at h
    have := brk_none hb
    rw [h] at this
    simp at this
  | some p =>
    obtain ⟨a, b⟩ := p
    rw [hb] at h
    simp only at h ⊢
    obtain ⟨e, hn⟩ := brk_some hb
    obtain rfl : a = x := List.append_cancel_right h
    exact ⟨hn, e⟩
theorem words_app {a : List UInt8} (h : (10 : UInt8) ∉ a) : wordsF [] (a ++ [10]) = spl a := by
  rw [(wordsF_spl a [] h).2]
  cases hr : spl a with
  | nil => rfl
  | cons x y => simp

def wordsR (t : List UInt8) : List (List UInt8) := wordsF [] (lineL t).1

def cntR (word t : List UInt8) : Option (Int × List UInt8) :=
  if (wordsR t).length = 2 then if word ++ 32 :: (itoa (numL ((wordsR t).getD 1 [])) ++ [10]) = (lineL t).1 then some (numL ((wordsR t).getD 1 []), (lineL t).2) else none else none
theorem cntR_eq {word t : List UInt8} (hw : (32 : UInt8) ∉ word) (hw2 : (10 : UInt8) ∉ word) : cntR word t = cntL word t := by
  cases h : cntR word t with
  | some p =>
    obtain ⟨n, b⟩ := p
    unfold cntR at h
    split at h
    · split at h
      · rename_i e
        injection h with h; injection h with h1 h2
        subst h1 h2
        have e' : (lineL t).1 = (word ++ 32 :: itoa (numL ((wordsR t).getD 1 []))) ++ [10] := by rw [← e]; simp
        obtain ⟨_, ht⟩ := lineL_some e'
        refine ((cnt_iff hw hw2).2 ⟨?_, numL_i64 _⟩).symm
        conv => lhs; rw [ht]
        simp
      · cases h
    · cases h
  | none =>
    cases hc : cntL word t with
    | none => rfl
    | some p =>
      obtain ⟨n, b⟩ := p
      obtain ⟨e, hn⟩ := (cnt_iff hw hw2).1 hc
      have hx : (10 : UInt8) ∉ word ++ 32 :: itoa n := by simp [hw2, itoa_no10 n]
      have hl : lineL t = ((word ++ 32 :: itoa n) ++ [10], b) := by rw [e, ← lineL_app _ _ hx]; simp
      have hs : wordsR t = [word, itoa n] := by unfold wordsR; rw [hl]; simp only; rw [words_app hx, spl_app _ hw, spl_not (itoa_no32 n)]
      unfold cntR at h
      rw [hs, hl] at h
      simp [numL_itoa n hn] at h

def floorR (t : List UInt8) : Option (Nat × List UInt8) :=
  if (wordsR t).length = 2 then if (unsL ((wordsR t).getD 1 [])).2 = false then none else if [102, 108, 111, 111, 114] ++ 32 :: (itoa ((unsL ((wordsR t).getD 1 [])).1 : Int) ++ [10]) = (lineL t).1 then some ((unsL ((wordsR t).getD 1 [])).1, (lineL t).2) else none else none
theorem floorR_eq (t : List UInt8) : floorR t = floorL t := by
  cases h : floorR t with
  | some p =>
    obtain ⟨n, b⟩ := p
    unfold floorR at h
    split at h
    · split at h
      · cases h
      · split at h
        · rename_i e
          injection h with h; injection h with h1 h2
          subst h1 h2
          have e' : (lineL t).1 = ([102, 108, 111, 111, 114] ++ 32 :: itoa ((unsL ((wordsR t).getD 1 [])).1 : Int)) ++ [10] := by rw [← e]; simp
          obtain ⟨_, ht⟩ := lineL_some e'
          refine (floor_iff.2 ⟨?_, unsL_le _⟩).symm
          conv => lhs; rw [ht]
          simp
        · cases h
    · cases h
  | none =>
    cases hc : floorL t with
    | none => rfl
    | some p =>
      obtain ⟨n, b⟩ := p
      obtain ⟨e, hn⟩ := floor_iff.1 hc
      have hx : (10 : UInt8) ∉ [102, 108, 111, 111, 114] ++ 32 :: itoa (n : Int) := by simp [itoa_no10 (n : Int)]
      have hl : lineL t = (([102, 108, 111, 111, 114] ++ 32 :: itoa (n : Int)) ++ [10], b) := by rw [e, ← lineL_app _ _ hx]; simp
      have hs : wordsR t = [[102, 108, 111, 111, 114], itoa (n : Int)] := by unfold wordsR; rw [hl]; simp only; rw [words_app hx, spl_app _ (by decide), spl_not (itoa_no32 _)]
      unfold floorR at h
      rw [hs, hl] at h
      have hu : unsL (itoa (n : Int)) = (n, true) := by rw [itoa_nonneg]; exact unsL_dec n hn
      simp [hu] at h

def savR (t : List UInt8) : Option (Bool × List UInt8) :=
  if (wordsR t).length = 2 then if yesL (decide ((wordsR t).getD 1 [] = [121, 101, 115])) = (lineL t).1 then some (decide ((wordsR t).getD 1 [] = [121, 101, 115]), (lineL t).2) else none else none
theorem savR_eq (t : List UInt8) : savR t = savL t := by
  cases h : savR t with
  | some p =>
    obtain ⟨s, b⟩ := p
    unfold savR at h
    split at h
    · split at h
      · rename_i e
        injection h with h; injection h with h1 h2
        rw [h1] at e
        subst h2
        have e' : ∃ x, (lineL t).1 = x ++ [10] ∧ yesL s = x ++ [10] := by
          rw [← e]
          cases s
          · exact ⟨[115, 97, 118, 101, 100, 32, 110, 111], rfl, rfl⟩
          · exact ⟨[115, 97, 118, 101, 100, 32, 121, 101, 115], rfl, rfl⟩
        obtain ⟨x, e', ex⟩ := e'
        obtain ⟨_, ht⟩ := lineL_some e'
        refine (sav_iff.2 ?_).symm
        conv => lhs; rw [ht]
        rw [ex]
        simp
      · cases h
    · cases h
  | none =>
    cases hc : savL t with
    | none => rfl
    | some p =>
      obtain ⟨s, b⟩ := p
      have e := sav_iff.1 hc
      have hx : ∃ y, yesL s = ([115, 97, 118, 101, 100] ++ 32 :: y) ++ [10] ∧ (32 : UInt8) ∉ y ∧ (10 : UInt8) ∉ y ∧ decide (y = [121, 101, 115]) = s := by
        cases s
        · exact ⟨[110, 111], rfl, by decide, by decide, by decide⟩
        · exact ⟨[121, 101, 115], rfl, by decide, by decide, by decide⟩
      obtain ⟨y, ey, h32, h10, hy⟩ := hx
      have hx : (10 : UInt8) ∉ [115, 97, 118, 101, 100] ++ 32 :: y := by simp [h10]
      have hl : lineL t = (([115, 97, 118, 101, 100] ++ 32 :: y) ++ [10], b) := by rw [e, ey, ← lineL_app _ _ hx]; simp
      have hs : wordsR t = [[115, 97, 118, 101, 100], y] := by unfold wordsR; rw [hl]; simp only; rw [words_app hx, spl_app _ (by decide), spl_not h32]
      unfold savR at h
      rw [hs, hl] at h
      simp [hy, ey] at h

def finOf (l : List (List UInt8)) : Fnd := ⟨kindR (l.getD 0 []), numL (l.getD 1 []), numL (l.getD 2 []), numL (l.getD 3 [])⟩
theorem finOf_wf (l : List (List UInt8)) : (finOf l).wf := ⟨kindR_i64 _, numL_i64 _, numL_i64 _, numL_i64 _⟩
def finR (t : List UInt8) : Option (Fnd × List UInt8) :=
  if (wordsR t).length = 4 then if rowL (finOf (wordsR t)) = (lineL t).1 then some (finOf (wordsR t), (lineL t).2) else none else none
theorem finR_eq (t : List UInt8) : finR t = finL t := by
  have row10 : ∀ f : Fnd, rowL f = (nameL f.k ++ 32 :: (itoa f.b ++ 32 :: (itoa f.p ++ 32 :: itoa f.o))) ++ [10] := fun f => by
    have := rowL_cons f []
    simp only [List.append_nil] at this
    rw [this]; simp
  cases h : finR t with
  | some p =>
    obtain ⟨f, b⟩ := p
    unfold finR at h
    split at h
    · split at h
      · rename_i e
        injection h with h; injection h with h1 h2
        subst h1 h2
        have e' := e.symm.trans (row10 _)
        obtain ⟨_, ht⟩ := lineL_some e'
        refine (fin_iff.2 ⟨?_, finOf_wf _⟩).symm
        conv => lhs; rw [ht]
        rw [row10]
        simp
      · cases h
    · cases h
  | none =>
    cases hc : finL t with
    | none => rfl
    | some p =>
      obtain ⟨f, b⟩ := p
      obtain ⟨e, hf⟩ := fin_iff.1 hc
      have hx : (10 : UInt8) ∉ nameL f.k ++ 32 :: (itoa f.b ++ 32 :: (itoa f.p ++ 32 :: itoa f.o)) := by simp [(nameL_mem f.k).2, itoa_no10]
      have hl : lineL t = (rowL f, b) := by
        have := lineL_app _ b hx
        rw [← row10] at this
        rw [e, ← this, row10]
        simp
      have hs : wordsR t = [nameL f.k, itoa f.b, itoa f.p, itoa f.o] := by
        unfold wordsR
        rw [hl]
        simp only
        rw [row10, words_app hx, spl_app _ (nameL_mem f.k).1, spl_app _ (itoa_no32 _), spl_app _ (itoa_no32 _), spl_not (itoa_no32 _)]
      have ho : finOf [nameL f.k, itoa f.b, itoa f.p, itoa f.o] = f := by
        obtain ⟨w0, w1, w2, w3⟩ := hf
        simp [finOf, kindR_name _ w0, numL_itoa _ w1, numL_itoa _ w2, numL_itoa _ w3]
      unfold finR at h
      rw [hs, hl] at h
      simp only [ho] at h
      simp at h

/-- one of the six first lines -/
def setK (k : Nat) (r : Rep) (x : List UInt8) : Rep := match k with
  | 0 => { r with floor := ((unsL x).1 : Int) }
  | 1 => { r with counted := numL x }
  | 2 => { r with live := numL x }
  | 3 => { r with used := numL x }
  | 4 => { r with bad := numL x }
  | _ => { r with saved := decide (x = [121, 101, 115]) }
def stepR (k : Nat) (r : Rep) (t : List UInt8) : Option (Rep × List UInt8) :=
  if (wordsR t).length = 2 then
    if k = 0 ∧ (unsL ((wordsR t).getD 1 [])).2 = false then none
    else if (headsL (setK k r ((wordsR t).getD 1 []))).getD k [] = (lineL t).1 then some (setK k r ((wordsR t).getD 1 []), (lineL t).2) else none
  else none
def tailR (r : Rep) (t : List UInt8) : Except Nat Rep := match finsL t.length 7 t with
  | .error n => .error n
  | .ok fs => .ok { r with fs := fs }
def readR : Nat → Nat → Rep → List UInt8 → Except Nat Rep
  | 0, _, r, t => tailR r t
  | f + 1, k, r, t => match stepR k r t with
    | none => .error (k + 1)
    | some p => readR f (k + 1) p.1 p.2
def zeroR : Rep := ⟨0, 0, 0, 0, 0, false, []⟩

theorem step0 (r : Rep) (t : List UInt8) : stepR 0 r t = (floorL t).map fun p => ({ r with floor := (p.1 : Int) }, p.2) := by
  rw [← floorR_eq]
  unfold stepR floorR
  by_cases h1 : (wordsR t).length = 2
  · rw [if_pos h1, if_pos h1]
    by_cases h2 : (unsL ((wordsR t).getD 1 [])).2 = false
    · rw [if_pos ⟨rfl, h2⟩, if_pos h2]; rfl
    · rw [if_neg (fun h => h2 h.2), if_neg h2]
      have e : (headsL (setK 0 r ((wordsR t).getD 1 []))).getD 0 [] = [102, 108, 111, 111, 114] ++ 32 :: (itoa ((unsL ((wordsR t).getD 1 [])).1 : Int) ++ [10]) := by simp [headsL, setK]
      rw [e]
      split <;> rfl
  · rw [if_neg h1, if_neg h1]; rfl
theorem step_cnt (k : Nat) (word : List UInt8) (hw : (32 : UInt8) ∉ word) (hw2 : (10 : UInt8) ∉ word) (r : Rep) (t : List UInt8) (hk : k ≠ 0) (u : Int → Rep) (hu : setK k r ((wordsR t).getD 1 []) = u (numL ((wordsR t).getD 1 [])))
    (hh : ∀ n, (headsL (u n)).getD k [] = word ++ 32 :: (itoa n ++ [10])) : stepR k r t = (cntL word t).map fun p => (u p.1, p.2) := by
  rw [← cntR_eq hw hw2]
  unfold stepR cntR
  rw [hu, hh]
  by_cases h1 : (wordsR t).length = 2
  · rw [if_pos h1, if_pos h1, if_neg (fun h => hk h.1)]
    split <;> rfl
  · rw [if_neg h1, if_neg h1]; rfl
theorem step5 (r : Rep) (t : List UInt8) : stepR 5 r t = (savL t).map fun p => ({ r with saved := p.1 }, p.2) := by
  rw [← savR_eq]
  unfold stepR savR
  by_cases h1 : (wordsR t).length = 2
  · rw [if_pos h1, if_pos h1, if_neg (fun h => by cases h.1)]
    have e : (headsL (setK 5 r ((wordsR t).getD 1 []))).getD 5 [] = yesL (decide ((wordsR t).getD 1 [] = [121, 101, 115])) := by simp [headsL, setK]
    rw [e]
    split <;> rfl
  · rw [if_neg h1, if_neg h1]; rfl

theorem readR_readL (t : List UInt8) : readR 6 0 zeroR t = readL t := by
  unfold readL
  simp only [readR, step0]
  cases floorL t with
  | none => rfl
  | some p1 =>
    simp only [Option.map_some]
    rw [step_cnt 1 [99, 111, 117, 110, 116, 101, 100] (by decide) (by decide) _ _ (by decide) (fun n => { zeroR with floor := (p1.1 : Int), counted := n }) rfl (fun n => by simp [headsL])]
    cases cntL [99, 111, 117, 110, 116, 101, 100] p1.2 with
    | none => rfl
    | some p2 =>
      simp only [Option.map_some]
      rw [step_cnt 2 [108, 105, 118, 101] (by decide) (by decide) _ _ (by decide) (fun n => { zeroR with floor := (p1.1 : Int), counted := p2.1, live := n }) rfl (fun n => by simp [headsL])]
      cases cntL [108, 105, 118, 101] p2.2 with
      | none => rfl
      | some p3 =>
        simp only [Option.map_some]
        rw [step_cnt 3 [117, 115, 101, 100] (by decide) (by decide) _ _ (by decide) (fun n => { zeroR with floor := (p1.1 : Int), counted := p2.1, live := p3.1, used := n }) rfl (fun n => by simp [headsL])]
        cases cntL [117, 115, 101, 100] p3.2 with
        | none => rfl
        | some p4 =>
          simp only [Option.map_some]
          rw [step_cnt 4 [98, 97, 100] (by decide) (by decide) _ _ (by decide) (fun n => { zeroR with floor := (p1.1 : Int), counted := p2.1, live := p3.1, used := p4.1, bad := n }) rfl (fun n => by simp [headsL])]
          cases cntL [98, 97, 100] p4.2 with
          | none => rfl
          | some p5 =>
            simp only [Option.map_some]
            rw [step5]
            cases savL p5.2 with
            | none => rfl
            | some p6 =>
              simp only [Option.map_some, tailR, zeroR]
              cases finsL p6.2.length 7 p6.2 <;> rfl
end Go.Proofs.YtioapjnaopnhaaaDoor
