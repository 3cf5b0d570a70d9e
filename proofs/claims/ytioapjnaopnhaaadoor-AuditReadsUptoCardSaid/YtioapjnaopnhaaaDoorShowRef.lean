/- The document's own Show of a report (shaleref19), for every report: its text. -/
import Derived.Test.YtioapjnaopnhaaaDoorNum
namespace Go.Proofs.YtioapjnaopnhaaaDoor
open Go.RowKit Go.Proofs

structure Fnd where
  k : Int
  b : Int
  p : Int
  o : Int
  deriving DecidableEq
def Fnd.wf (f : Fnd) : Prop := I64 f.k ∧ I64 f.b ∧ I64 f.p ∧ I64 f.o
structure Rep where
  floor : Int
  counted : Int
  live : Int
  used : Int
  bad : Int
  saved : Bool
  fs : List Fnd
def Rep.wf (r : Rep) : Prop := U64 r.floor ∧ I64 r.counted ∧ I64 r.live ∧ I64 r.used ∧ I64 r.bad ∧ ∀ f ∈ r.fs, f.wf

def wordsL : List (List UInt8) := [[], [98, 114, 111, 107, 101, 110], [102, 105, 120, 101, 100], [115, 116, 97, 108, 101], [114, 101, 102, 117, 115, 101, 100], [112, 104, 97, 110, 116, 111, 109], [108, 111, 115, 116], [116, 119, 105, 99, 101], [117, 110, 108, 105, 110, 107, 101, 100], [98, 97, 100]]
def wordL (k : Int) : List UInt8 := if 1 ≤ k ∧ k ≤ 9 then wordsL.getD k.toNat [] else []
def rowL (f : Fnd) : List UInt8 := (if (wordL f.k).isEmpty then Lib.itoa f.k else wordL f.k) ++ [32] ++ Lib.itoa f.b ++ [32] ++ Lib.itoa f.p ++ [32] ++ Lib.itoa f.o ++ [10]
def yesL (b : Bool) : List UInt8 := if b then [115, 97, 118, 101, 100, 32, 121, 101, 115, 10] else [115, 97, 118, 101, 100, 32, 110, 111, 10]
def headsL (r : Rep) : List (List UInt8) := [[102, 108, 111, 111, 114, 32] ++ Lib.itoa r.floor ++ [10], [99, 111, 117, 110, 116, 101, 100, 32] ++ Lib.itoa r.counted ++ [10], [108, 105, 118, 101, 32] ++ Lib.itoa r.live ++ [10], [117, 115, 101, 100, 32] ++ Lib.itoa r.used ++ [10], [98, 97, 100, 32] ++ Lib.itoa r.bad ++ [10], yesL r.saved]
def showL (r : Rep) : List UInt8 := (headsL r).flatten ++ (r.fs.map rowL).flatten

theorem wordL_len (k : Int) : (wordL k).length ≤ 8 := by
  unfold wordL
  split
  · rename_i h
    obtain ⟨n, rfl⟩ : ∃ n : Nat, k = n := ⟨k.toNat, by omega⟩
    have h9 : n = 1 ∨ n = 2 ∨ n = 3 ∨ n = 4 ∨ n = 5 ∨ n = 6 ∨ n = 7 ∨ n = 8 ∨ n = 9 := by omega
    rcases h9 with rfl | rfl | rfl | rfl | rfl | rfl | rfl | rfl | rfl <;> decide
  · simp

set_option maxHeartbeats 1600000 in
set_option maxRecDepth 100000 in
theorem word_some (k : Int) (w : World) (hw : Ok w) (h1 : 1 ≤ k) (h9 : k ≤ 9) :
    Calls Tryd.prog 38 #[.int .i64 k] w fun e w' => e = .returned (.string ⟨(wordsL.getD k.toNat []).toArray⟩) ∧ Fr w w' := by
  have h : k = 1 ∨ k = 2 ∨ k = 3 ∨ k = 4 ∨ k = 5 ∨ k = 6 ∨ k = 7 ∨ k = 8 ∨ k = 9 := by omega
  clear h1 h9
  rcases h with rfl | rfl | rfl | rfl | rfl | rfl | rfl | rfl | rfl
  all_goals
    go_enter Tryd.func38, Tryd.ntmps38
    go_wp2
    go_ret
    exact ⟨rfl, (Fr.refl hw).alloc _⟩

set_option maxRecDepth 100000 in
theorem word_any (k : Int) (w : World) (hw : Ok w) :
    Calls Tryd.prog 38 #[.int .i64 k] w fun e w' => e = .returned (.string ⟨(wordL k).toArray⟩) ∧ Fr w w' := by
  by_cases h1 : k < 1
  · have hl : wordL k = [] := by unfold wordL; rw [if_neg (by omega)]
    rw [hl]; clear hl
    go_enter Tryd.func38, Tryd.ntmps38
    go_wp2
    go_ret
    exact ⟨rfl, (Fr.refl hw).alloc _⟩
  · by_cases h9 : 9 < k
    · have hl : wordL k = [] := by unfold wordL; rw [if_neg (by omega)]
      rw [hl]; clear hl
      go_enter Tryd.func38, Tryd.ntmps38
      go_wp2
      go_ret
      exact ⟨rfl, (Fr.refl hw).alloc _⟩
    · unfold wordL
      rw [if_pos (by omega)]
      exact word_some k w hw (by omega) (by omega)

set_option maxHeartbeats 800000 in
set_option maxRecDepth 100000 in
theorem row_any (f : Fnd) (w : World) (hw : Ok w) (hf : f.wf) :
    Calls Tryd.prog 22 #[.agg #[.int .i64 f.k, .int .i64 f.b, .int .i64 f.p, .int .i64 f.o]] w fun e w' => e = .returned (.string ⟨(rowL f).toArray⟩) ∧ Fr w w' := by
  obtain ⟨k, b, p, o⟩ := f
  obtain ⟨hk, hb, hp, ho⟩ := hf
  obtain ⟨w1, g, hg, hw1, f1, hz1, c0, c1, c2, c3⟩ := boxed4 hw (.int .i64 k) (.int .i64 b) (.int .i64 p) (.int .i64 o) 29
  have hx' : rowL ⟨k, b, p, o⟩ = (if (wordL k).isEmpty then Lib.itoa k else wordL k) ++ [32] ++ Lib.itoa b ++ [32] ++ Lib.itoa p ++ [32] ++ Lib.itoa o ++ [10] := rfl
  have HX := Lib.hid hx'; clear hx'
  dsimp only at hk hb hp ho ⊢
  have lk := itoa_len k hk
  have lb := itoa_len b hb
  have lp := itoa_len p hp
  have lo := itoa_len o ho
  have lw := wordL_len k
  generalize hx : (wordL k).isEmpty = x at *
  cases x
  all_goals
    go_enter Tryd.func22, Tryd.ntmps22
    go_wp2_with (first
      | (go_at_call 38; refine (word_any _ _ f1.ok).mono ?_; rintro e wq ⟨rfl, q⟩; replace c0 := q.cell c0; replace c1 := q.cell c1; replace c2 := q.cell c2; replace c3 := q.cell c3; replace f1 := f1.trans q; clear q)
      | (go_at_call 18; refine (Itoa _ hk _ f1.ok).mono ?_; rintro e wq ⟨rfl, q⟩; replace c0 := q.cell c0; replace c1 := q.cell c1; replace c2 := q.cell c2; replace c3 := q.cell c3; replace f1 := f1.trans q; clear q))
    have r_c1 := cell_regrown c1
    have r_c2 := cell_regrown c2
    have r_c3 := cell_regrown c3
    refine wp_region_quiet_below (by kernel_rfl) (by kernel_rfl) ?_
    repeat (go_big_quiet_step (first | (go_at_call 18; exact qfr (Itoa _ (by assumption) _ (okR f1.ok _ _)))))
    refine wpQuiet_nil ?_
    intro wq hwq
    have q := Fr.regrown f1.ok hwq
    clear hwq r_c1 r_c2 r_c3
    replace c1 := q.cell c1
    replace c2 := q.cell c2
    replace c3 := q.cell c3
    replace f1 := f1.trans q
    clear q
    go_wp2
    go_ret
    refine ⟨?_, f1⟩
    simp only [bs_app]
    exact strE (by rw [HX.out]; simp)

set_option maxHeartbeats 1600000 in
set_option maxRecDepth 100000 in
theorem heads_any (r : Rep) (A : Value) (w : World) (hw : Ok w) (hr : r.wf) :
    Calls Tryd.prog 21 #[.agg #[.int .u64 r.floor, .int .i64 r.counted, .int .i64 r.live, .int .i64 r.used, .int .i64 r.bad, .bool r.saved, A]] w fun e w' => ∃ g, e = .returned (.slice (some ⟨g, 0, none⟩) 6 6) ∧ Fr w w' ∧ ∀ j s, (headsL r)[j]? = some s → w'.cell? ⟨g, j, none⟩ = some (.string ⟨s.toArray⟩) := by
  obtain ⟨fl, ct, lv, us, bd, sv, fs⟩ := r
  obtain ⟨hfl, hct, hlv, hus, hbd, _⟩ := hr
  obtain ⟨w1, g, hg, hw1, f1, hz1, c0, c1, c2, c3, c4, c5, c6⟩ := boxed7 hw (.int .u64 fl) (.int .i64 ct) (.int .i64 lv) (.int .i64 us) (.int .i64 bd) (.bool sv) A 25
  dsimp only at hfl hct hlv hus hbd ⊢
  have l0 := utoa_len fl hfl
  have l1 := itoa_len ct hct
  have l2 := itoa_len lv hlv
  have l3 := itoa_len us hus
  have l4 := itoa_len bd hbd
  cases sv
  all_goals
    go_enter Tryd.func21, Tryd.ntmps21
    go_wp2
    have r_c0 := cell_regrown c0
    have r_c1 := cell_regrown c1
    have r_c2 := cell_regrown c2
    have r_c3 := cell_regrown c3
    have r_c4 := cell_regrown c4
    refine Reg.wp_region_tail_below 0 26 (by kernel_rfl) (by kernel_rfl) (fun _ _ d _ _ h => by cases d <;> exact h) ?_
    simp only [List.take_succ_cons, List.take_zero, List.drop_succ_cons, List.drop_zero, Reg.earlyA]
    repeat (go_big_quiet_step (first | (go_at_call 17; exact qfr (FormatUint _ (by assumption) _ (okR f1.ok _ _))) | (go_at_call 18; exact qfr (Itoa _ (by assumption) _ (okR f1.ok _ _)))))
    refine wpQuiet_nil ?_
    intro wq hwq
    have q := Fr.regrown f1.ok hwq
    clear hwq r_c0 r_c1 r_c2 r_c3 r_c4
    replace c0 := q.cell c0
    replace c1 := q.cell c1
    replace c2 := q.cell c2
    replace c3 := q.cell c3
    replace c4 := q.cell c4
    replace f1 := f1.trans q
    clear q
    go_wp2_with fail
    go_ret
    refine ⟨_, rfl, f1.alloc _, fun j s hs => ?_⟩
    rw [World.cell?_alloc_new]
    simp only [bs_app]
    rcases j with _ | _ | _ | _ | _ | _ | j <;> simp [headsL, yesL] at hs <;> subst hs <;> simp

/-- a row of findings in memory -/
def FRow (w : World) (A : Option Addr) (fs : List Fnd) : Prop :=
  fs = [] ∨ ∃ b o, A = some ⟨b, o, none⟩ ∧ b < w.heap.size ∧ ∀ i f, fs[i]? = some f → w.cell? ⟨b, o + i * 4, none⟩ = some (.int .i64 f.k) ∧ w.cell? ⟨b, o + i * 4 + 1, none⟩ = some (.int .i64 f.b) ∧ w.cell? ⟨b, o + i * 4 + 2, none⟩ = some (.int .i64 f.p) ∧ w.cell? ⟨b, o + i * 4 + 3, none⟩ = some (.int .i64 f.o)
theorem FRow.fr {w w' : World} {A : Option Addr} {fs : List Fnd} (h : FRow w A fs) (q : Fr w w') : FRow w' A fs := by
  rcases h with h | ⟨b, o, hA, hb, h⟩
  · exact .inl h
  · exact .inr ⟨b, o, hA, Nat.lt_of_lt_of_le hb q.size, fun i f hi => by obtain ⟨h0, h1, h2, h3⟩ := h i f hi; exact ⟨q.cell h0, q.cell h1, q.cell h2, q.cell h3⟩⟩
end Go.Proofs.YtioapjnaopnhaaaDoor
