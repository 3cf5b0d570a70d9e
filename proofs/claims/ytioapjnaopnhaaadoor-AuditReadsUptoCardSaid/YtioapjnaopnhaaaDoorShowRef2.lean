/- The document's own Show of a report (shaleref19), the whole text: for every report whose text takes at most 2^40 bytes. -/
import Derived.Test.YtioapjnaopnhaaaDoorShowRef
namespace Go.Proofs.YtioapjnaopnhaaaDoor
open Go.RowKit Go.Proofs

theorem rowL_len (f : Fnd) (h : f.wf) : (rowL f).length ≤ 88 := by
  obtain ⟨hk, hb, hp, ho⟩ := h
  have lk := itoa_len _ hk
  have lb := itoa_len _ hb
  have lp := itoa_len _ hp
  have lo := itoa_len _ ho
  have lw := wordL_len f.k
  unfold rowL
  split <;> simp only [List.length_append, List.length_cons, List.length_nil] <;> omega
theorem rows_len (fs : List Fnd) (h : ∀ f ∈ fs, f.wf) : ((fs.map rowL).flatten).length ≤ 88 * fs.length := by
  induction fs with
  | nil => simp
  | cons f fs ih =>
    have h1 := rowL_len f (h f (by simp))
    have h2 := ih fun g hg => h g (by simp [hg])
    simp only [List.map_cons, List.flatten_cons, List.length_append, List.length_cons]
    omega
theorem yesL_len (b : Bool) : (yesL b).length ≤ 10 := by cases b <;> decide
theorem headsL_all (r : Rep) (h : r.wf) : ((headsL r).flatten).length ≤ 200 := by
  obtain ⟨h0, h1, h2, h3, h4, _⟩ := h
  have l0 := utoa_len _ h0
  have l1 := itoa_len _ h1
  have l2 := itoa_len _ h2
  have l3 := itoa_len _ h3
  have l4 := itoa_len _ h4
  have l5 := yesL_len r.saved
  simp only [headsL, List.flatten_cons, List.flatten_nil, List.length_append, List.length_cons, List.length_nil]
  omega
theorem take_flat_le (l : List (List UInt8)) (k : Nat) : ((l.take k).flatten).length ≤ (l.flatten).length := by
  have h : (l.take k).flatten ++ (l.drop k).flatten = l.flatten := by rw [← List.flatten_append, List.take_append_drop]
  have := congrArg List.length h
  simp only [List.length_append] at this
  omega
theorem flat_succ (l : List (List UInt8)) (k : Nat) (h : k < l.length) : (l.take (k + 1)).flatten = (l.take k).flatten ++ l[k] := by
  rw [List.take_succ_eq_append_getElem h, List.flatten_append]; simp

def headsTo (r : Rep) (k : Nat) : List UInt8 := ((headsL r).take k).flatten
theorem headsTo_succ (r : Rep) (k : Nat) (h : k < 6) : headsTo r (k + 1) = headsTo r k ++ (headsL r)[k]'(by exact h) := flat_succ _ _ h
theorem headsTo_le (r : Rep) (hr : r.wf) (k : Nat) : (headsTo r k).length ≤ 200 := Nat.le_trans (take_flat_le _ _) (headsL_all r hr)
def rowsTo (r : Rep) (k : Nat) : List UInt8 := (headsL r).flatten ++ ((r.fs.take k).map rowL).flatten
theorem rowsTo_succ (r : Rep) (k : Nat) (h : k < r.fs.length) : rowsTo r (k + 1) = rowsTo r k ++ rowL r.fs[k] := by
  unfold rowsTo
  rw [List.take_succ_eq_append_getElem h, List.map_append, List.flatten_append]
  simp
theorem rowsTo_le (r : Rep) (hr : r.wf) (k : Nat) : (rowsTo r k).length ≤ 200 + 88 * r.fs.length := by
  have h1 := headsL_all r hr
  have h2 := rows_len (r.fs.take k) fun f hf => hr.2.2.2.2.2 f (List.mem_of_mem_take hf)
  have h3 : (r.fs.take k).length ≤ r.fs.length := List.length_take_le' _ _
  unfold rowsTo
  rw [List.length_append]
  omega
theorem rowsTo_all (r : Rep) : rowsTo r r.fs.length = showL r := by unfold rowsTo showL; rw [List.take_length]

set_option maxHeartbeats 1600000 in
set_option maxRecDepth 100000 in
theorem refShow (r : Rep) (a : Option Addr) (c : Nat) (w : World) (hw : Ok w) (hr : r.wf) (hF : FRow w a r.fs) (hn : r.fs.length ≤ 1099511627776) :
    Calls Tryd.prog 7 #[.agg #[.int .u64 r.floor, .int .i64 r.counted, .int .i64 r.live, .int .i64 r.used, .int .i64 r.bad, .bool r.saved, .slice a r.fs.length c]] w fun e w' => e = .returned (.string ⟨(showL r).toArray⟩) ∧ Fr w w' := by
  obtain ⟨w1, g, hg, hw1, f1, hz1, c0, c1, c2, c3, c4, c5, c6⟩ := boxed7 hw (.int .u64 r.floor) (.int .i64 r.counted) (.int .i64 r.live) (.int .i64 r.used) (.int .i64 r.bad) (.bool r.saved) (.slice a r.fs.length c) 25
  have hF1 := hF.fr f1
  go_enter Tryd.func7, Tryd.ntmps7
  go_wp2_with (go_at_call 21; refine (heads_any r _ _ f1.ok hr).mono ?_; rintro e wq ⟨gh, rfl, q, hH⟩; replace hF1 := hF1.fr q; replace c6 := q.cell c6; replace f1 := f1.trans q; clear q)
  go_loop [3, 5] (fun s i => ∃ k : Nat, k ≤ 6 ∧ i = .int .i64 k ∧ s = .string ⟨(headsTo r k).toArray⟩) (fun _ i => 6 - (intOf i).toNat)
  case atStart => exact ⟨0, by omega, rfl, rfl⟩
  case round =>
    obtain ⟨k, hk, rfl, rfl⟩ := hrel
    by_cases hlt : k < 6
    · have hc := hH k ((headsL r)[k]'(by exact hlt)) (List.getElem?_eq_getElem _)
      have hs := Lib.hid (headsTo_succ r k hlt)
      have hle := headsTo_le r hr (k + 1)
      rw [hs.out, List.length_append] at hle
      go_wp2
      go_round
      case rel => exact ⟨k + 1, by omega, by go_num, by rw [hs.out]; simp only [bs_app]⟩
      case measure => simp [intOf]; omega
    · obtain rfl : k = 6 := by omega
      have e6 : headsTo r 6 = rowsTo r 0 := by unfold headsTo rowsTo; simp [headsL]
      rw [e6]
      clear hH e6
      go_wp2_with fail
      go_loopw [3, 6] (fun s i W => ∃ k : Nat, k ≤ r.fs.length ∧ i = .int .i64 k ∧ s = .string ⟨(rowsTo r k).toArray⟩ ∧ Fr w W ∧ FRow W a r.fs ∧ W.cell? ⟨g, 6, none⟩ = some (.slice a r.fs.length c)) (fun _ i _ => r.fs.length - (intOf i).toNat)
      case atStart => exact ⟨0, by omega, rfl, rfl, f1, hF1, c6⟩
      case round =>
        clear c6 hF1 f1
        obtain ⟨k, hk, rfl, rfl, f1, hF1, c6⟩ := hrel
        by_cases hlt : k < r.fs.length
        · obtain ⟨b, o, rfl, hb, hcells⟩ : ∃ b o, a = some ⟨b, o, none⟩ ∧ _ := hF1.resolve_left (by intro e; rw [e] at hlt; simp at hlt)
          obtain ⟨d0, d1, d2, d3⟩ := hcells k r.fs[k] (List.getElem?_eq_getElem _)
          have hs := Lib.hid (rowsTo_succ r k hlt)
          have hle := rowsTo_le r hr (k + 1)
          rw [hs.out, List.length_append] at hle
          have hwf := hr.2.2.2.2.2 r.fs[k] (List.getElem_mem hlt)
          go_wp2_with (go_at_call 22; refine (row_any r.fs[k] _ f1.ok hwf).mono ?_; rintro e wq ⟨rfl, q⟩; replace hF1 := hF1.fr q; replace c6 := q.cell c6; replace f1 := f1.trans q; clear q)
          go_roundw
          case rel => exact ⟨k + 1, by omega, by go_num, by rw [hs.out]; simp only [bs_app], f1, hF1, c6⟩
          case measure => simp [intOf]; omega
        · obtain rfl : k = r.fs.length := by omega
          rw [rowsTo_all]
          go_wp2
          go_ret
          exact ⟨rfl, f1⟩
end Go.Proofs.YtioapjnaopnhaaaDoor
