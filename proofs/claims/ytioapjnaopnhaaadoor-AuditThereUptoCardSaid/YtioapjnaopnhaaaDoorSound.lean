/- audit.Sound and shaleref19.Sound: no finding of kind 4, 6 or 7. No conditions beyond the number of findings. -/
import Derived.Test.YtioapjnaopnhaaaDoorSame
set_option linter.unusedSimpArgs false
set_option linter.unusedVariables false
namespace Go.Proofs.YtioapjnaopnhaaaDoor
open Go.RowKit Go.Proofs

def badKind (k : Int) : Bool := k == 4 || k == 6 || k == 7
def soundL (fs : List Fnd) : Bool := fs.all fun f => !badKind f.k

set_option maxHeartbeats 1600000 in
set_option maxRecDepth 100000 in
theorem sound_any (r : Rep) (a : Option Addr) (c : Nat) (w : World) (hw : Ok w) (hF : FRow w a r.fs) (hn : r.fs.length ≤ 1099511627776) :
    Calls Tryd.prog 12 #[repV r a c] w fun e w' => e = .returned (.bool (soundL r.fs)) ∧ Fr w w' := by
  obtain ⟨r0, r1, r2, r3, r4, r5, fs⟩ := r
  unfold repV
  dsimp only at hF hn ⊢
  obtain ⟨w1, g, hg, hw1, f, hz1, H⟩ := boxedN hw #[.int .u64 r0, .int .i64 r1, .int .i64 r2, .int .i64 r3, .int .i64 r4, .bool r5, .slice a fs.length c] 25
  obtain ⟨c0, c1, c2, c3, c4, c5, c6⟩ := blk7 H
  go_enter Tryd.func12, Tryd.ntmps12
  go_wp2
  go_loopw [8] (fun i W => ∃ k : Nat, k ≤ fs.length ∧ i = .int .i64 k ∧ soundL (fs.take k) = true ∧ Fr w W) (fun i _ => fs.length - (intOf i).toNat)
  case atStart => exact ⟨0, by omega, rfl, rfl, f⟩
  case round =>
    clear f H c0 c1 c2 c3 c4 c5 c6 hw1 hz1
    obtain ⟨k, hk, rfl, hs, f⟩ := hrel
    replace hs := Lib.hid hs
    by_cases hlt : k < fs.length
    · obtain ⟨b, o, rfl, hb, hcells⟩ : ∃ b o, a = some ⟨b, o, none⟩ ∧ _ := (hF.fr f).resolve_left (by intro e; rw [e] at hlt; simp at hlt)
      obtain ⟨d0, d1, d2, d3⟩ := hcells k fs[k] (List.getElem?_eq_getElem _)
      obtain ⟨w2, g2, hg2, hw2, f2, hz2, H2⟩ := boxedN f.ok #[.int .i64 fs[k].k, .int .i64 fs[k].b, .int .i64 fs[k].p, .int .i64 fs[k].o] 29
      obtain ⟨e0, e1, e2, e3⟩ := blk4 H2
      have hbad : badKind fs[k].k = true → soundL fs = false := fun h => by
        unfold soundL
        rw [List.all_eq_false]
        exact ⟨fs[k], List.getElem_mem hlt, by simp [h]⟩
      have hgood : badKind fs[k].k = false → soundL (fs.take (k + 1)) = true := fun h => by
        rw [List.take_succ_eq_append_getElem hlt]
        unfold soundL
        have h1 := hs.out
        unfold soundL at h1
        rw [List.all_append, h1]
        simp [h]
      replace hbad := Lib.hid hbad
      replace hgood := Lib.hid hgood
      replace f := f.trans f2
      go_wp2
      all_goals first
        | (go_ret; exact ⟨by rw [hbad.out (by unfold badKind; simp [*])]; rfl, f⟩)
        | exact ⟨⟨k + 1, by omega, by go_num, hgood.out (by unfold badKind; simp [*]), f⟩, by simp [intOf]; omega⟩
    · obtain rfl : k = fs.length := by omega
      go_wp2
      go_ret
      have h1 := hs.out
      rw [List.take_length] at h1
      exact ⟨by rw [h1]; rfl, f⟩

set_option maxHeartbeats 1600000 in
set_option maxRecDepth 100000 in
theorem refSound_any (r : Rep) (a : Option Addr) (c : Nat) (w : World) (hw : Ok w) (hF : FRow w a r.fs) (hn : r.fs.length ≤ 1099511627776) :
    Calls Tryd.prog 13 #[repV r a c] w fun e w' => e = .returned (.bool (soundL r.fs)) ∧ Fr w w' := by
  obtain ⟨r0, r1, r2, r3, r4, r5, fs⟩ := r
  unfold repV
  dsimp only at hF hn ⊢
  obtain ⟨w1, g, hg, hw1, f, hz1, H⟩ := boxedN hw #[.int .u64 r0, .int .i64 r1, .int .i64 r2, .int .i64 r3, .int .i64 r4, .bool r5, .slice a fs.length c] 25
  obtain ⟨c0, c1, c2, c3, c4, c5, c6⟩ := blk7 H
  go_enter Tryd.func13, Tryd.ntmps13
  go_wp2
  go_loopw [3] (fun i W => ∃ k : Nat, k ≤ fs.length ∧ i = .int .i64 k ∧ soundL (fs.take k) = true ∧ Fr w W ∧ W.cell? ⟨g, 6, none⟩ = some (.slice a fs.length c)) (fun i _ => fs.length - (intOf i).toNat)
  case atStart => exact ⟨0, by omega, rfl, rfl, f, c6⟩
  case round =>
    clear f H c0 c1 c2 c3 c4 c5 c6 hw1 hz1
    obtain ⟨k, hk, rfl, hs, f, c6⟩ := hrel
    replace hs := Lib.hid hs
    by_cases hlt : k < fs.length
    · obtain ⟨b, o, rfl, hb, hcells⟩ : ∃ b o, a = some ⟨b, o, none⟩ ∧ _ := (hF.fr f).resolve_left (by intro e; rw [e] at hlt; simp at hlt)
      obtain ⟨d0, d1, d2, d3⟩ := hcells k fs[k] (List.getElem?_eq_getElem _)
      have hbad : badKind fs[k].k = true → soundL fs = false := fun h => by
        unfold soundL
        rw [List.all_eq_false]
        exact ⟨fs[k], List.getElem_mem hlt, by simp [h]⟩
      have hgood : badKind fs[k].k = false → soundL (fs.take (k + 1)) = true := fun h => by
        rw [List.take_succ_eq_append_getElem hlt]
        unfold soundL
        have h1 := hs.out
        unfold soundL at h1
        rw [List.all_append, h1]
        simp [h]
      replace hbad := Lib.hid hbad
      replace hgood := Lib.hid hgood
      go_wp2
      all_goals first
        | (have h := ‹((fs[k].k == 4) = true ∨ (fs[k].k == 6) = true) ∨ (fs[k].k == 7) = true›; have h2 := hbad.out (by unfold badKind; simp only [Bool.or_eq_true]; exact h); go_ret; exact ⟨by rw [h2]; rfl, f⟩)
        | (have h2 := hbad.out (by unfold badKind; simp [*]; done); go_ret; exact ⟨by rw [h2]; rfl, f⟩)
        | exact ⟨⟨k + 1, by omega, by go_num, hgood.out (by unfold badKind; simp [*]), f, c6⟩, by simp [intOf]; omega⟩
    · obtain rfl : k = fs.length := by omega
      go_wp2
      go_ret
      have h1 := hs.out
      rw [List.take_length] at h1
      exact ⟨by rw [h1]; rfl, f⟩
end Go.Proofs.YtioapjnaopnhaaaDoor
