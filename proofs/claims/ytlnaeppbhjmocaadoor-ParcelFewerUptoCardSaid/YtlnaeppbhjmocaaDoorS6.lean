/- The program's reader of what stands behind the head (parcel.reader.tree): treeR and one byte more, or it gives up. -/
import Derived.Test.YtlnaeppbhjmocaaDoorS5
import Derived.Laws.RangeString
import Derived.Laws.Runes
import Derived.Laws.Strings3
import Derived.Lib.DecodeN
import Derived.Lib.IndexAny
import Derived.Lib.IndexBytes
import Derived.Deep.LoopGhost
import Derived.WalkMore
import Derived.Lib.Bytealg
import Derived.Deep.DeepCutAuto
set_option linter.unusedSectionVars false
set_option linter.unnecessarySimpa false
set_option linter.unusedSimpArgs false
set_option linter.unusedVariables false
set_option linter.unusedSimpArgs false
set_option linter.unusedVariables false
namespace Go.Proofs.YtlnaeppbhjmocaaDoor
open Go.RowKit Go.Proofs

theorem getbang (s : ByteArray) (i : Nat) (h : i < s.size) : s.get! i = s[i]'h := by
  simp [ByteArray.get!, getElem!_pos, h]
  rfl
/-- what a byte from 128 on begins -/
theorem decode_high (s : ByteArray) (i : Nat) (h : i < s.size) (hb : 128 ≤ (s[i]'h).toNat) :
    ∃ r n : Nat, Utf8.decode s i = (r, n) ∧ 128 ≤ r ∧ Utf8.valid r = true ∧ 1 ≤ n ∧ i + n ≤ s.size ∧ ∀ j (hj : j < s.size), i ≤ j → j < i + n → 128 ≤ (s[j]'hj).toNat := by
  have hd := Lib.decode_at s i
  have e0 := getbang s i h
  have v : ∀ c : Nat, (c < 55296 ∨ (57344 ≤ c ∧ c ≤ 1114111)) → Utf8.valid (c : Int) = true := fun c hc => by
    rw [validRune_eq]; unfold validRune; rw [decide_eq_true]; omega
  have one : ∀ j (hj : j < s.size), i ≤ j → j < i + 1 → 128 ≤ (s[j]'hj).toNat := fun j hj h1 h2 => by
    obtain rfl : j = i := by omega
    exact hb
  have nxt : ∀ k, i + k < s.size → (s.get! (i + k)).toNat / 64 = 2 → ∀ (hj : i + k < s.size), 128 ≤ (s[i + k]'hj).toNat := fun k hk h2 hj => by
    rw [getbang s (i + k) hk] at h2; omega
  rw [e0] at hd
  unfold Lib.decodeN at hd
  rw [if_neg (by omega)] at hd
  split at hd
  · rename_i c
    split at hd
    · refine ⟨_, _, hd, by omega, v _ (by omega), by omega, by omega, fun j hj h1 h2 => ?_⟩
      by_cases e : j = i
      · subst e; exact hb
      · obtain rfl : j = i + 1 := by omega
        exact nxt 1 (by omega) c.2.2 hj
    · exact ⟨_, _, hd, by omega, v _ (by omega), by omega, by omega, one⟩
  split at hd
  · rename_i c
    split at hd
    · refine ⟨_, _, hd, by omega, v _ (by omega), by omega, by omega, fun j hj h1 h2 => ?_⟩
      have hj3 : j = i ∨ j = i + 1 ∨ j = i + 2 := by omega
      rcases hj3 with rfl | rfl | rfl
      · exact hb
      · exact nxt 1 (by omega) c.2.1.2 hj
      · exact nxt 2 (by omega) c.2.2.2 hj
    · exact ⟨_, _, hd, by omega, v _ (by omega), by omega, by omega, one⟩
  split at hd
  · rename_i c
    split at hd
    · refine ⟨_, _, hd, by omega, v _ (by omega), by omega, by omega, fun j hj h1 h2 => ?_⟩
      have hj3 : j = i ∨ j = i + 1 ∨ j = i + 2 ∨ j = i + 3 := by omega
      rcases hj3 with rfl | rfl | rfl | rfl
      · exact hb
      · exact nxt 1 (by omega) c.2.1.2 hj
      · exact nxt 2 (by omega) c.2.2.1.2 hj
      · exact nxt 3 (by omega) c.2.2.2.2 hj
    · exact ⟨_, _, hd, by omega, v _ (by omega), by omega, by omega, one⟩
  · exact ⟨_, _, hd, by omega, v _ (by omega), by omega, by omega, one⟩

def sl0 : ByteArray := ⟨#[47, 0]⟩
theorem fr_iter {w0 w : World} (f : Fr w0 w) (s : ByteArray) (p : Nat) : Fr w0 (w.iter s p) := f.alloc _

set_option maxHeartbeats 1600000 in
set_option maxRecDepth 1000000 in
theorem indexRune_bad (w : World) (hw : Ok w) : Calls Tryd.prog 109 #[.string ⟨#[47, 0]⟩, .int .i32 65533] w fun e w' => e = .returned (.int .i64 (-1)) ∧ Fr w w' := by
  have f := Fr.refl hw
  have n0 := fun ty => run_next_ascii (P := Tryd.prog) w sl0 0 ty (by decide) (by decide)
  have n1 := fun ty => run_next_ascii (P := Tryd.prog) w sl0 1 ty (by decide) (by decide)
  have n2 := fun ty => run_next_end (P := Tryd.prog) w sl0 2 ty (by decide)
  have b0 : ((sl0[0]'(by decide)).toNat : Int) = 47 := rfl
  have b1 : ((sl0[1]'(by decide)).toNat : Int) = 0 := rfl
  rw [b0] at n0
  rw [b1] at n1
  unfold sl0 at *
  clear b0 b1
  go_enter Tryd.func109, Tryd.ntmps109
  go_wp2_with fail
  go_loopg [5, 6] 2 (fun q _ _ W => ∃ i : Nat, Hid (q = 2 - i ∧ i ≤ 2) ∧ W = w.iter ⟨#[47, 0]⟩ i)
  case atStart => exact ⟨0, Lib.hid ⟨rfl, by omega⟩, rfl⟩
  case round =>
    obtain ⟨i, hq, rfl⟩ := hrel
    obtain ⟨rfl, hi⟩ := hq.out
    clear hq
    have h3 : i = 0 ∨ i = 1 ∨ i = 2 := by omega
    clear hi
    rcases h3 with rfl | rfl | rfl
    · go_wp2_with fail
      go_roundg 1
      case measure => omega
      case rel => exact ⟨1, Lib.hid ⟨rfl, by omega⟩, rfl⟩
    · go_wp2_with fail
      go_roundg 0
      case measure => omega
      case rel => exact ⟨2, Lib.hid ⟨rfl, by omega⟩, rfl⟩
    · go_wp2_with fail
      go_ret
      exact ⟨rfl, fr_iter f _ _⟩

theorem ib_none (s : ByteArray) (b : UInt8) (hs : s.data.toList = []) (w : World) (hw : Ok w) : Calls Tryd.prog 77 #[.string s, .int .u8 b.toNat] w fun e w' => e = .returned (.int .i64 (-1)) ∧ Fr w w' :=
  (Tryd.strings_IndexByte s b.toNat w).mono fun _ _ ⟨he, hw'⟩ => ⟨by rw [he, hs]; rfl, by rw [hw']; exact Fr.refl hw⟩
set_option maxHeartbeats 1600000 in
set_option maxRecDepth 1000000 in
theorem indexRune_high (r : Nat) (h128 : 128 ≤ r) (hv : Utf8.valid (r : Int) = true) (w : World) (hw : Ok w) : Calls Tryd.prog 109 #[.string ⟨#[47, 0]⟩, .int .i32 r] w fun e w' => e = .returned (.int .i64 (-1)) ∧ Fr w w' := by
  by_cases hbad : r = 65533
  · subst hbad; exact indexRune_bad w hw
  · have f := Fr.refl hw
    obtain ⟨z2, z4, z5⟩ := encode_facts r hv (by omega)
    have hvr : Lib.validRune (r : Int) = true := by
      have := hv
      rw [validRune_eq] at this
      exact this
    have hmax : r ≤ 1114111 := by
      have := hv
      rw [validRune_eq] at this
      unfold validRune at this
      have := of_decide_eq_true this
      omega
    have hb : ((r : Int) == 65533) = false := by rw [beq_eq_false_iff_ne]; omega
    have h0 : (0 : Int) ≤ (r : Int) := by omega
    have h1 : ¬ ((r : Int) < 128) := by omega
    have hd : decide ((r : Int) < 128) = false := decide_eq_false h1
    clear hbad h1
    obtain ⟨rs, hrs⟩ : ∃ rs, Utf8.encode (r : Int) = rs := ⟨_, rfl⟩
    rw [hrs] at z2 z4 z5
    have Z5 := Lib.hid z5
    clear z5
    have s3 : rs.size = 2 ∨ rs.size = 3 ∨ rs.size = 4 := by omega
    clear z2 z4
    have HV := Lib.hid hv
    clear hv
    rcases s3 with hs | hs | hs
    · have h12 : 1 < rs.size := by omega
      obtain ⟨b, hbx⟩ : ∃ b : UInt8, (rs[1]'h12) = b := ⟨_, rfl⟩
      have hx : 128 ≤ b.toNat := by
        have := Z5.out (by omega)
        rw [← hbx]
        have e : rs.size - 1 = 1 := by omega
        simpa only [e] using this
      have hsz : ((rs.size : Int)) = 2 := by omega
      have hne : ((((⟨#[47, 0]⟩ : ByteArray)[1]'(by decide)).toNat : Int) != (b.toNat : Int)) = true := by
        have : (((⟨#[47, 0]⟩ : ByteArray)[1]'(by decide)).toNat : Int) = 0 := rfl
        rw [this]; simp; omega
      have h12' : (1 : Int) < (rs.size : Int) := by omega
      go_enter Tryd.func109, Tryd.ntmps109
      go_wp2_with (go_at_call 117; refine (Tryd.utf8_ValidRune _ _).mono ?_; rintro e w' ⟨rfl, rfl⟩)
      go_step3
      go_wp2_with fail
      refine wp_loop_rounds 1 ?_
      rw [rounds_succ]
      go_wp2_with fail
      go_step3
      go_wp2_with fail
      refine wp_region_quiet_below (by kernel_rfl) (by kernel_rfl) ?_
      repeat (go_big_quiet_step (fail))
      refine wpQuiet_nil ?_
      intro wq hwq
      have q := Fr.regrown f.ok hwq
      clear hwq
      replace f := f.trans q
      clear q
      go_wp2_with fail
      refine wp_region_quiet_below (by kernel_rfl) (by kernel_rfl) ?_
      repeat (go_big_quiet_step (first | (go_at_call 77; exact qfr (ib_none _ b (by rfl) _ (okR f.ok _ _)))))
      refine wpQuiet_nil ?_
      intro wq hwq
      have q := Fr.regrown f.ok hwq
      clear hwq
      replace f := f.trans q
      clear q
      go_wp2_with fail
      rw [Exit.noGoto_ret]
      go_wp2_with fail
      rw [Exit.noGoto_ret]
      go_ret
      exact ⟨rfl, f⟩
    · go_enter Tryd.func109, Tryd.ntmps109
      go_wp2_with (go_at_call 117; refine (Tryd.utf8_ValidRune _ _).mono ?_; rintro e w' ⟨rfl, rfl⟩)
      go_step3
      go_wp2_with fail
      refine wp_loop_rounds 1 ?_
      rw [rounds_succ]
      go_wp2_with fail
      rw [Exit.noGoto_ret]
      go_ret
      exact ⟨rfl, f⟩
    · go_enter Tryd.func109, Tryd.ntmps109
      go_wp2_with (go_at_call 117; refine (Tryd.utf8_ValidRune _ _).mono ?_; rintro e w' ⟨rfl, rfl⟩)
      go_step3
      go_wp2_with fail
      refine wp_loop_rounds 1 ?_
      rw [rounds_succ]
      go_wp2_with fail
      rw [Exit.noGoto_ret]
      go_ret
      exact ⟨rfl, f⟩

/-- the iterator's next step, wherever the iterator lies -/
def nextW (W : World) (g : Nat) (s : ByteArray) (p : Nat) : World := { W with heap := W.heap.setIfInBounds g (.stringIter s p) }
theorem run_next_at {P : Program} (W : World) (g : Nat) (s : ByteArray) (pos : Nat) (ty : TypeId) (H : W.heap[g]? = some (.stringIter s pos)) (h : pos < s.size) :
    (Instr.next (.pointer (some ⟨g, 0, none⟩)) true ty).run P W = .ok (.tuple #[.bool true, .int .i64 pos, .int .i32 ((Utf8.decode s pos).1 : Nat)]) (nextW W g s (pos + (Utf8.decode s pos).2)) := by
  simp only [Instr.next, getObj, setObj, Sem.run_bind, Sem.run, H, Result.andThen, h, if_true]
  simp [goInt, Sem.run, H, nextW]
theorem run_next_at_end {P : Program} (W : World) (g : Nat) (s : ByteArray) (pos : Nat) (ty : TypeId) (H : W.heap[g]? = some (.stringIter s pos)) (h : ¬ pos < s.size) :
    (Instr.next (.pointer (some ⟨g, 0, none⟩)) true ty).run P W = .ok (.tuple #[.bool false]) W := by
  simp [Instr.next, getObj, Sem.run, H, h]
theorem fr_next {w W : World} {g : Nat} (f : Fr w W) (hw : Ok w) (hg : w.heap.size ≤ g) (s : ByteArray) (p : Nat) : Fr w (nextW W g s p) :=
  Fr.of hw ⟨f.below.os, f.below.tape, f.below.output, by have := f.below.size; simpa [nextW] using this, fun k hk => by
    have h1 := f.below.block k hk
    simp only [nextW]
    rw [Array.getElem?_setIfInBounds_ne (by omega)]; exact h1⟩
theorem next_heap {W : World} {g : Nat} {s : ByteArray} {q : Nat} (H : W.heap[g]? = some (.stringIter s q)) (p : Nat) : (nextW W g s p).heap[g]? = some (.stringIter s p) := by
  have hlt := (Array.getElem?_eq_some_iff.1 H).1
  simp [nextW, hlt]

/-- no byte of s ahead of i is one of the two -/
theorem noneOf_take (s : List UInt8) : Lib.NoAny s [47, 0] s.length ↔ noneOf s = true := by
  unfold noneOf Lib.NoAny
  rw [List.all_eq_true]
  constructor
  · intro h x hx
    obtain ⟨j, hj, rfl⟩ := List.getElem_of_mem hx
    have := h j s[j] hj (List.getElem?_eq_getElem hj)
    simp at this ⊢
    exact ⟨this.2, this.1⟩
  · intro h j b hj hb
    have := h b (List.mem_of_getElem? hb)
    simp at this ⊢
    exact ⟨this.2, this.1⟩

set_option maxHeartbeats 3200000 in
set_option maxRecDepth 1000000 in
theorem indexAny_short (s : ByteArray) (h8 : s.size ≤ 8) (w : World) (hw : Ok w) : Calls Tryd.prog 103 #[.string s, .string ⟨#[47, 0]⟩] w fun e w' => (∃ i : Int, e = .returned (.int .i64 i) ∧ decide (0 ≤ i) = !noneOf s.data.toList) ∧ Fr w w' := by
  have f := Fr.refl hw
  have h8z : decide ((8 : Int) < (s.size : Int)) = false := decide_eq_false (by omega)
  obtain ⟨g, hg⟩ : ∃ g, w.heap.size = g := ⟨_, rfl⟩
  have H0 : (w.iter s 0).heap[g]? = some (.stringIter s 0) := by rw [← hg]; exact World.iter_heap w s 0
  obtain ⟨wi, hwi⟩ : ∃ wi, w.iter s 0 = wi := ⟨_, rfl⟩
  have fi : Fr w wi := by rw [← hwi]; exact fr_iter f s 0
  rw [hwi] at H0
  have hgw : w.heap.size ≤ g := by omega
  go_enter Tryd.func103, Tryd.ntmps103
  go_wp2_with (go_at_call 110; refine (Tryd.strings_shouldUseASCIISet _ _).mono ?_; rintro e w' ⟨rfl, hw'⟩; rw [hw', h8z])
  go_loopg [9, 10] s.size (fun q _ _ W => ∃ i : Nat, Hid (q = s.size - i ∧ i ≤ s.size) ∧ W.heap[g]? = some (.stringIter s i) ∧ Fr w W ∧ Hid (Lib.NoAny s.data.toList [47, 0] i))
  case atStart => exact ⟨0, Lib.hid ⟨rfl, by omega⟩, H0, fi, Lib.hid (Lib.NoAny.zero _ _)⟩
  case round =>
    clear H0 fi
    obtain ⟨i, hq, H, f, HN⟩ := hrel
    obtain ⟨rfl, hi⟩ := hq.out
    clear hq
    by_cases hlt : i < s.size
    · have hnx := fun ty => run_next_at (P := Tryd.prog) wr g s i ty H hlt
      by_cases hx : (s[i]'hlt).toNat < 128
      · rw [decode_ascii s i hlt hx] at hnx
        dsimp only at hnx
        have f5 := fr_next f hw hgw s (i + 1)
        have H5 := next_heap H (i + 1)
        obtain ⟨w5, hw5⟩ : ∃ w5, nextW wr g s (i + 1) = w5 := ⟨_, rfl⟩
        rw [hw5] at f5 H5
        rw [hw5] at hnx
        obtain ⟨c, hc⟩ : ∃ c : UInt8, s[i]'hlt = c := ⟨_, rfl⟩
        rw [hc] at hnx hx
        have hmem : c ∈ s.data.toList := by rw [← hc]; exact Array.getElem_mem_toList (xs := s.data) hlt
        have hget : s.data.toList[i]? = some c := by rw [← hc]; exact Lib.data_getElem? s i hlt
        have hHit : (c = 47 ∨ c = 0) → Hid (noneOf s.data.toList = false) := fun h => Lib.hid (by
          cases hn : noneOf s.data.toList with
          | false => rfl
          | true =>
            unfold noneOf at hn
            have := List.all_eq_true.1 hn c hmem
            rcases h with rfl | rfl <;> simp at this)
        have hMiss : ¬ (c = 47 ∨ c = 0) → Hid (Lib.NoAny s.data.toList [47, 0] (i + 1)) := fun h => Lib.hid (HN.out.succ hget (by simp; exact not_or.1 h))
        have e47 : Lib.indexByte [47, 0] 47 = 0 := by decide
        have e0 : Lib.indexByte [47, 0] 0 = 1 := by decide
        have eN : ¬ (c = 47 ∨ c = 0) → Lib.indexByte [47, 0] c = -1 := fun h => by
          have h1 : (47 == c) = false := by rw [beq_eq_false_iff_ne]; exact fun e => h (.inl e.symm)
          have h2 : (0 == c) = false := by rw [beq_eq_false_iff_ne]; exact fun e => h (.inr e.symm)
          simp [Lib.indexByte, h1, h2]
        have CR : ∀ v, Lib.indexByte [47, 0] c = v → ∀ w : World, Calls Tryd.prog 109 #[.string ⟨#[47, 0]⟩, .int .i32 (c.toNat : Nat)] w fun e w' => e = .returned (.int .i64 v) ∧ w = w' := fun v hv w =>
          (Tryd.strings_IndexRune_ascii ⟨#[47, 0]⟩ c.toNat w (by omega) (by omega)).mono fun e w' ⟨he, hw'⟩ => ⟨by rw [he, ← hv]; simp, hw'.symm⟩
        clear hmem hget hc H f
        by_cases hcc : c = 47 ∨ c = 0
        · obtain ⟨v, hv, hv0⟩ : ∃ v : Int, Lib.indexByte [47, 0] c = v ∧ 0 ≤ v := by
            rcases hcc with rfl | rfl
            · exact ⟨0, e47, by omega⟩
            · exact ⟨1, e0, by omega⟩
          have CV := Lib.hid (CR v hv)
          have HZ := hHit hcc
          clear hHit hMiss e47 e0 eN CR hcc hv HN
          go_wp2_with (go_at_call 109; refine (CV.out _).mono ?_; rintro e wx ⟨rfl, rfl⟩)
          go_ret
          exact ⟨⟨i, rfl, by rw [HZ.out]; exact decide_eq_true (by omega)⟩, f5⟩
        · have CV := Lib.hid (CR (-1) (eN hcc))
          have HM := hMiss hcc
          clear hHit hMiss e47 e0 eN CR hcc HN
          go_wp2_with (go_at_call 109; refine (CV.out _).mono ?_; rintro e wx ⟨rfl, rfl⟩)
          go_roundg (s.size - (i + 1))
          case measure => omega
          case rel => exact ⟨i + 1, Lib.hid ⟨rfl, by omega⟩, H5, f5, HM⟩
      · obtain ⟨r, n, hdec, hr, hv, hn1, hin, hall⟩ := decode_high s i hlt (by omega)
        rw [hdec] at hnx
        dsimp only at hnx
        have f5 := fr_next f hw hgw s (i + n)
        have H5 := next_heap H (i + n)
        obtain ⟨w5, hw5⟩ : ∃ w5, nextW wr g s (i + n) = w5 := ⟨_, rfl⟩
        rw [hw5] at f5 H5
        rw [hw5] at hnx
        have HM : Hid (Lib.NoAny s.data.toList [47, 0] (i + n)) := Lib.hid (fun j b hj hb => by
          by_cases hji : j < i
          · exact HN.out j b hji hb
          · have hjs : j < s.size := by omega
            have h1 := hall j hjs (by omega) hj
            have h2 : s.data.toList[j]? = some (s[j]'hjs) := Lib.data_getElem? s j hjs
            rw [h2] at hb
            injection hb with hb
            rw [hb] at h1
            simp
            constructor <;> (rintro rfl; simp at h1))
        have CV := Lib.hid (indexRune_high r hr hv)
        clear hall HN H f hx hdec
        go_wp2_with (go_at_call 109; refine (CV.out _ f5.ok).mono ?_; rintro e wx ⟨rfl, q⟩; replace H5 := q.heap H5; replace f5 := f5.trans q; clear q)
        go_roundg (s.size - (i + n))
        case measure => omega
        case rel => exact ⟨i + n, Lib.hid ⟨rfl, by omega⟩, H5, f5, HM⟩
    · obtain rfl : i = s.size := by omega
      have hnx := fun ty => run_next_at_end (P := Tryd.prog) wr g s s.size ty H (by omega)
      have HZ : Hid (noneOf s.data.toList = true) := Lib.hid ((noneOf_take _).1 (by have := HN.out; rwa [show s.data.toList.length = s.size from Array.length_toList]))
      clear HN
      go_wp2_with fail
      go_ret
      exact ⟨⟨-1, rfl, by rw [HZ.out]; rfl⟩, f⟩
end Go.Proofs.YtlnaeppbhjmocaaDoor
set_option linter.unusedSimpArgs false
set_option linter.unusedVariables false
namespace Go.Proofs.YtlnaeppbhjmocaaDoor
open Go.RowKit Go.Proofs

def nameL (s : ByteArray) : Int := if 1 ≤ s.size ∧ s.size ≤ 63 ∧ s.data.toList ≠ [46] ∧ s.data.toList ≠ [46, 46] ∧ noneOf s.data.toList = true then 0 else 81
theorem nameL_B (s : ByteArray) : nameL s = if nameB s = true then 0 else 81 := by
  unfold nameL nameB
  simp [and_assoc]
theorem indexAny_noneOf : ∀ l : List UInt8, decide (0 ≤ Lib.indexAny l [47, 0]) = !noneOf l
  | [] => rfl
  | b :: l => by
    have ih := indexAny_noneOf l
    have hge := Lib.indexAny_ge [47, 0] l
    unfold Lib.indexAny noneOf
    rw [List.all_cons]
    by_cases hb : b = 47 ∨ b = 0
    · have h1 : ([47, 0] : List UInt8).contains b = true := by rcases hb with rfl | rfl <;> rfl
      rw [h1, if_pos rfl]
      rcases hb with rfl | rfl <;> simp
    · have h1 : ([47, 0] : List UInt8).contains b = false := by simp; exact not_or.1 hb
      have h2 : (b != 0 && b != 47) = true := by simp; exact ⟨fun e => hb (.inr e), fun e => hb (.inl e)⟩
      rw [h1, if_neg (by simp), h2, Bool.true_and]
      unfold noneOf at ih
      rw [← ih]
      by_cases hm : Lib.indexAny l [47, 0] = -1
      · rw [hm]; rfl
      · rw [if_neg (by simpa using hm), decide_eq_true (by omega), decide_eq_true (by omega)]

theorem zero256 (w : World) : (zeroValue 145).run Tryd.prog w = .ok (.agg (Array.replicate 256 (.bool false))) w := by kernel_rfl
theorem indexAny_any (s : ByteArray) (hs : s.size ≤ 1073741824) (w : World) (hw : Ok w) : Calls Tryd.prog 103 #[.string s, .string ⟨#[47, 0]⟩] w fun e w' => (∃ i : Int, e = .returned (.int .i64 i) ∧ decide (0 ≤ i) = !noneOf s.data.toList) ∧ Fr w w' := by
  by_cases h8 : s.size ≤ 8
  · exact indexAny_short s h8 w hw
  · refine (Tryd.strings_IndexAny_long zero256 s ⟨#[47, 0]⟩ w (by decide) (by omega) (by omega) (by decide) (fun j b hb => ?_)).mono ?_
    · have : b ∈ ([47, 0] : List UInt8) := List.mem_of_getElem? hb
      simp at this
      rcases this with rfl | rfl <;> decide
    · rintro e w' ⟨rfl, rfl⟩
      exact ⟨⟨_, rfl, indexAny_noneOf _⟩, ((Fr.refl hw).alloc _).alloc _⟩

set_option maxRecDepth 100000 in
theorem containsAny_any (s : ByteArray) (hs : s.size ≤ 1073741824) (w : World) (hw : Ok w) : Calls Tryd.prog 96 #[.string s, .string ⟨#[47, 0]⟩] w fun e w' => e = .returned (.bool (!noneOf s.data.toList)) ∧ Fr w w' := by
  have f := Fr.refl hw
  go_enter Tryd.func96, Tryd.ntmps96
  go_wp2_with (go_at_call 103; refine (indexAny_any s hs _ f.ok).mono ?_; rintro e wx ⟨⟨i, rfl, hi⟩, q⟩; replace f := f.trans q; clear q; have HI := Lib.hid hi; clear hi)
  go_ret
  exact ⟨by rw [← HI.out]; rfl, f⟩

set_option maxHeartbeats 1600000 in
set_option maxRecDepth 100000 in
theorem pname_any (s : ByteArray) (hs : s.size ≤ 1073741824) (w : World) (hw : Ok w) : Calls Tryd.prog 84 #[.string s] w fun e w' => e = .returned (.int .i64 (nameL s)) ∧ Fr w w' := by
  have f := Fr.refl hw
  have htl := Lib.toList_data s
  have hno : (¬ (1 ≤ s.size ∧ s.size ≤ 63 ∧ s.data.toList ≠ [46] ∧ s.data.toList ≠ [46, 46] ∧ noneOf s.data.toList = true)) → Hid (nameL s = 81) := fun h => Lib.hid (if_neg h)
  have HNO := Lib.hid hno
  clear hno
  have hemp : s.toList.isEmpty = decide (s.size = 0) := by
    rw [htl, Bool.eq_iff_iff]
    simp only [List.isEmpty_iff, decide_eq_true_eq]
    constructor
    · intro h; have := congrArg List.length h; rw [Array.length_toList] at this; exact this
    · intro h; exact List.eq_nil_of_length_eq_zero (by rw [Array.length_toList]; exact h)
  by_cases h0 : s.size = 0
  · have he : s.toList.isEmpty = true := by rw [hemp]; exact decide_eq_true h0
    have HR := HNO.out (fun h => by omega)
    clear hemp htl h0
    go_enter Tryd.func84, Tryd.ntmps84
    go_wp2_with fail
    go_ret
    exact ⟨by rw [HR.out]; rfl, f⟩
  have he : s.toList.isEmpty = false := by rw [hemp]; exact decide_eq_false h0
  clear hemp
  by_cases h1 : (63 : Int) < (s.size : Int)
  · have HR := HNO.out (fun h => by omega)
    clear htl h0
    go_enter Tryd.func84, Tryd.ntmps84
    go_wp2_with fail
    go_ret
    exact ⟨by rw [HR.out]; rfl, f⟩
  by_cases h2 : s.data.toList = [46]
  · have HR := HNO.out (fun h => h.2.2.1 h2)
    have hb : (s.toList == [46]) = true := by rw [htl, h2]; rfl
    clear htl h0 h2
    go_enter Tryd.func84, Tryd.ntmps84
    go_wp2_with fail
    go_ret
    exact ⟨by rw [HR.out]; rfl, f⟩
  have hb2 : (s.toList == [46]) = false := by rw [htl]; simpa using h2
  by_cases h3 : s.data.toList = [46, 46]
  · have HR := HNO.out (fun h => h.2.2.2.1 h3)
    have hb : (s.toList == [46, 46]) = true := by rw [htl, h3]; rfl
    clear htl h0 h2 h3
    go_enter Tryd.func84, Tryd.ntmps84
    go_wp2_with fail
    go_ret
    exact ⟨by rw [HR.out]; rfl, f⟩
  have hb3 : (s.toList == [46, 46]) = false := by rw [htl]; simpa using h3
  cases hn : noneOf s.data.toList with
  | false =>
    have HR := HNO.out (fun h => by rw [hn] at h; exact absurd h.2.2.2.2 (by simp))
    have HN := Lib.hid hn
    clear htl h0 h2 h3 hn
    go_enter Tryd.func84, Tryd.ntmps84
    go_wp2_with (go_at_call 96; refine (containsAny_any s hs _ f.ok).mono ?_; rw [HN.out]; rintro e wx ⟨rfl, q⟩; replace f := f.trans q; clear q)
    go_ret
    exact ⟨by rw [HR.out]; rfl, f⟩
  | true =>
    have HR : Hid (nameL s = 0) := Lib.hid (if_pos ⟨by omega, by omega, h2, h3, hn⟩)
    have HN := Lib.hid hn
    clear htl h0 h2 h3 hn
    go_enter Tryd.func84, Tryd.ntmps84
    go_wp2_with (go_at_call 96; refine (containsAny_any s hs _ f.ok).mono ?_; rw [HN.out]; rintro e wx ⟨rfl, q⟩; replace f := f.trans q; clear q)
    go_ret
    exact ⟨by rw [HR.out]; rfl, f⟩

end Go.Proofs.YtlnaeppbhjmocaaDoor
set_option linter.unusedSimpArgs false
set_option linter.unusedVariables false
namespace Go.Proofs.YtlnaeppbhjmocaaDoor
open Go.RowKit Go.Proofs Go.Proofs.YtlnaeppbhjmocaaDoorW.PrintWords Go.Proofs.YtlnaeppbhjmocaaDoorW.PrintMore

theorem ib_zero : ∀ l : List UInt8, decide (Lib.indexByte l 0 < 0) = l.all fun c => c != 0
  | [] => rfl
  | b :: l => by
    have ih := ib_zero l
    unfold Lib.indexByte
    by_cases hb : b = 0
    · subst hb; simp
    · rw [List.all_cons, ← ih]
      have h1 : (b == 0) = false := by simpa using hb
      have h2 : (b != 0) = true := by simpa using hb
      have hge := Lib.indexByte_ge l 0
      rw [h2, h1, Bool.true_and, if_neg (by simp)]
      by_cases hm : Lib.indexByte l 0 = -1
      · rw [if_pos (by simpa using hm), hm]
      · rw [if_neg (by simpa using hm), decide_eq_false (by omega), decide_eq_false (by omega)]
theorem goodTarget_any (s : ByteArray) (w : World) : Calls Tryd.prog 64 #[.string s] w fun e w' => e = .returned (.bool (targetB s)) ∧ w' = w := by
  by_cases h1 : 1 ≤ s.size
  · by_cases h2 : s.size ≤ 127
    · have d1 : (1 : Int) ≤ s.size := by omega
      have d2 : (s.size : Int) ≤ 127 := by omega
      have hi := ib_zero s.data.toList
      have ht : targetB s = decide (Lib.indexByte s.data.toList 0 < 0) := by
        unfold targetB; rw [decide_eq_true ⟨h1, h2⟩, hi]; rfl
      have HT := Lib.hid ht
      clear hi ht
      go_enter Tryd.func64, Tryd.ntmps64
      go_wp2_with (go_at_call 77; refine (Tryd.strings_IndexByte s 0 _).mono ?_; rintro e wx ⟨rfl, rfl⟩)
      go_ret
      exact ⟨by rw [HT.out]; rfl, rfl⟩
    · have d1 : (1 : Int) ≤ s.size := by omega
      have d2 : (127 : Int) < s.size := by omega
      have ht : targetB s = false := by unfold targetB; rw [decide_eq_false (fun h => h2 h.2)]; rfl
      have HT := Lib.hid ht
      clear ht
      go_enter Tryd.func64, Tryd.ntmps64
      go_wp2_with fail
      go_ret
      exact ⟨by rw [HT.out]; rfl, rfl⟩
  · have d1 : (s.size : Int) < 1 := by omega
    have ht : targetB s = false := by unfold targetB; rw [decide_eq_false (fun h => h1 h.1)]; rfl
    have HT := Lib.hid ht
    clear ht
    go_enter Tryd.func64, Tryd.ntmps64
    go_wp2_with fail
    go_ret
    exact ⟨by rw [HT.out]; rfl, rfl⟩

/-- how many bytes the path of some names has -/
def plen (l : List ByteArray) : Nat := (l.flatMap fun n => slash :: n.data.toList).length
theorem plen_snoc (l : List ByteArray) (n : ByteArray) : plen (l ++ [n]) = plen l + (1 + n.size) := by
  unfold plen
  rw [List.flatMap_append, List.length_append]
  simp [Nat.add_comm]
theorem plen_path {l : List ByteArray} (h : l ≠ []) : (pathOf l).size = plen l := by
  unfold pathOf plen
  rw [if_neg h]
  exact List.size_toArray ..
theorem plen_le (l : List ByteArray) (h : ∀ n ∈ l, n.size ≤ 63) : plen l ≤ 64 * l.length := by
  induction l with
  | nil => simp [plen]
  | cons n r ih =>
    have h1 := ih (fun m hm => h m (List.mem_cons_of_mem _ hm))
    have h2 := h n List.mem_cons_self
    have : plen (n :: r) = (1 + n.size) + plen r := by unfold plen; simp; omega
    rw [this, List.length_cons]; omega
theorem join_path : ∀ (l : List ByteArray), l ≠ [] → (47 : UInt8) :: Lib.join (l.map (·.data.toList)) [47] = l.flatMap fun n => slash :: n.data.toList
  | [n], _ => by simp [Lib.join, List.intercalate, slash]
  | n :: m :: r, _ => by
    have ih := join_path (m :: r) (by simp)
    rw [List.flatMap_cons, ← ih]
    simp [Lib.join, List.intercalate, slash]
theorem join_path' {l : List ByteArray} (h : l ≠ []) : (⟨#[47]⟩ : ByteArray) ++ ⟨(Lib.join (l.map (·.data.toList)) [47]).toArray⟩ = pathOf l := by
  refine bs_ext ?_
  unfold pathOf
  rw [if_neg h, ← join_path l h, ByteArray.data_append]
  simp
theorem join_len {l : List ByteArray} (h : l ≠ []) : (Lib.join (l.map (·.data.toList)) [47]).length + 1 = plen l := by
  have := congrArg List.length (join_path l h)
  simpa [plen] using this
def goodNames (ns : List ByteArray) : Bool := ns.all nameB && decide ((pathOf ns).size ≤ 1023)
theorem goodNames_iff {ns : List ByteArray} : goodNames ns = true ↔ (∀ n ∈ ns, nameB n = true) ∧ (pathOf ns).size ≤ 1023 := by
  simp [goodNames]
def JoinOut (ns : List ByteArray) (e : Ending) : Prop := ∃ s x, e = .returned (.tuple #[.string s, .int .i64 x]) ∧ (x = 0 ↔ goodNames ns = true) ∧ (goodNames ns = true → s = pathOf ns)
theorem joinOut_bad {ns : List ByteArray} (h : goodNames ns = false) (x : Int) (hx : x ≠ 0) (s : ByteArray) : JoinOut ns (.returned (.tuple #[.string s, .int .i64 x])) := ⟨s, x, rfl, by rw [h]; simp [hx], by rw [h]; simp⟩
set_option maxHeartbeats 3200000 in
set_option maxRecDepth 100000 in
theorem join_any (g c : Nat) (ns : List ByteArray) (w : World) (hw : Ok w) (hg : g < w.heap.size) (hcells : ∀ j (h : j < ns.length), w.cell? ⟨g, j, none⟩ = some (.string ns[j])) (hc : ns.length ≤ c) (h0 : ns ≠ []) (hl : ns.length ≤ 64) (hup : ∀ n ∈ ns, n.data.toList ≠ [46, 46]) (hsz : ∀ n ∈ ns, n.size ≤ 63) :
    Calls Tryd.prog 70 #[.slice (some ⟨g, 0, none⟩) ns.length c] w fun e w' => JoinOut ns e ∧ Fr w w' := by
  have f := Fr.refl hw
  have HC := Lib.hid hcells
  have HU := Lib.hid hup
  have HS := Lib.hid hsz
  clear hcells hup hsz
  go_enter Tryd.func70, Tryd.ntmps70
  go_wp2_with fail
  go_loopg [4, 9] ns.length (fun k v4 v9 wc => ∃ i : Nat, i + k = ns.length ∧ v4 = .int .i64 (plen (ns.take i)) ∧ v9 = .int .i64 i ∧ Hid (∀ n ∈ ns.take i, nameB n = true) ∧ Hid (Fr w wc))
  case atStart => exact ⟨0, by omega, by simp [plen], rfl, Lib.hid (by simp), Lib.hid f⟩
  case round =>
    clear f
    obtain ⟨i, hik, rfl, rfl, HA, f⟩ := hrel
    have hpl : plen (ns.take i) ≤ 4096 := by
      have := plen_le (ns.take i) (fun n hn => HS.out n (List.mem_of_mem_take hn))
      rw [List.length_take] at this; omega
    cases gk with
    | succ k =>
      have hlt : i < ns.length := by omega
      have hcell := f.out.cell (HC.out i hlt)
      obtain ⟨nm, hnm⟩ : ∃ n, ns[i] = n := ⟨_, rfl⟩
      rw [hnm] at hcell
      have hmem : nm ∈ ns := by rw [← hnm]; exact List.getElem_mem hlt
      have hns := HS.out nm hmem
      have hup : (nm.toList == [46, 46]) = false := by rw [toL]; simpa using HU.out nm hmem
      have hup2 : (nm.toList != [46, 46]) = true := by rw [toL]; simpa using HU.out nm hmem
      have htk : ns.take (i + 1) = ns.take i ++ [nm] := by rw [← hnm]; exact (List.take_append_getElem hlt).symm
      have HTK := Lib.hid htk
      have d2 : (0 : Int) ≤ (i : Int) := by omega
      have d3 : (i : Int) < (ns.length : Int) := by omega
      have d1 : decide ((i : Int) < (ns.length : Int)) = true := decide_eq_true d3
      have HM := Lib.hid hmem
      have hnv : nameL nm = if nameB nm = true then 0 else 81 := nameL_B nm
      clear htk hnm hmem
      cases hB : nameB nm with
      | false =>
        have HN := Lib.hid (pname_any nm (by omega) wr f.out.ok)
        have hnv2 : nameL nm = 81 := by rw [hnv, hB]; rfl
        have HB := Lib.hid hB
        rw [hnv2] at HN
        clear hnv hnv2 hB
        go_wp2_with (go_at_call 84; (with_reducible refine HN.out.mono ?_); rintro e wx ⟨rfl, q⟩; (have HQ := Lib.hid q); clear q)
        go_ret2
        exact ⟨joinOut_bad (by
          rw [Bool.eq_false_iff]; intro h
          have := (goodNames_iff.1 h).1 nm HM.out
          rw [HB.out] at this; cases this) 81 (by decide) _, f.out.trans HQ.out⟩
      | true =>
        have HN := Lib.hid (pname_any nm (by omega) wr f.out.ok)
        have hnv2 : nameL nm = 0 := by rw [hnv, hB]; rfl
        have HB := Lib.hid hB
        rw [hnv2] at HN
        have hsn := plen_snoc (ns.take i) nm
        have HSN := Lib.hid hsn
        clear hnv hnv2 hB hsn
        go_wp2_with (go_at_call 84; (with_reducible refine HN.out.mono ?_); rintro e wx ⟨rfl, q⟩; (have HQ := Lib.hid q); clear q)
        go_roundg k
        case measure => omega
        case rel =>
          refine ⟨i + 1, by omega, ?_, by go_num, Lib.hid ?_, Lib.hid (f.out.trans HQ.out)⟩
          · rw [HTK.out, HSN.out]; simp
          · rw [HTK.out]
            intro n hn
            rcases List.mem_append.1 hn with h | h
            · exact HA.out n h
            · rw [List.mem_singleton.1 h]; exact HB.out
    | zero =>
      obtain rfl : i = ns.length := by omega
      have d1 : (ns.length : Int) ≤ (ns.length : Int) := by omega
      have d4 : decide ((64 : Int) < (ns.length : Int)) = false := decide_eq_false (by omega)
      have htl := List.take_length (l := ns)
      have HAll : Hid (∀ n ∈ ns, nameB n = true) := Lib.hid (by have := HA.out; rwa [htl] at this)
      rw [htl]
      rw [htl] at hpl
      have hps := plen_path h0
      by_cases h1023 : 1023 < plen ns
      · have d5 : (1023 : Int) < (plen ns : Int) := by omega
        have HBad : Hid (goodNames ns = false) := Lib.hid (by
          rw [Bool.eq_false_iff]; intro h
          have := (goodNames_iff.1 h).2; omega)
        clear htl hps
        go_wp2
        go_ret2
        exact ⟨joinOut_bad HBad.out 161 (by decide) _, f.out⟩
      · have d5 : (plen ns : Int) ≤ 1023 := by omega
        have HGood : Hid (goodNames ns = true) := Lib.hid (goodNames_iff.2 ⟨HAll.out, by omega⟩)
        have hjl := join_len h0
        have hjn := Tryd.strings_Join g 0 c ns ⟨#[47]⟩ wr (fun j x hx => by
            have hj := (List.getElem?_eq_some_iff.1 hx).1
            have hx' := (List.getElem?_eq_some_iff.1 hx).2
            rw [Nat.zero_add, ← hx']; exact f.out.cell (HC.out j hj)) (Nat.lt_of_lt_of_le hg f.out.size) (by omega) hc (by show (Lib.join _ [47]).length ≤ _; omega)
        have HJ := Lib.hid hjn
        have hjp := join_path' h0
        obtain ⟨J, hJ⟩ : ∃ J, Lib.join (ns.map (·.data.toList)) [47] = J := ⟨_, rfl⟩
        have hJ' : Hid (Calls Tryd.prog 74 #[.slice (some ⟨g, 0, none⟩) ns.length c, .string ⟨#[47]⟩] wr fun e w' => e = .returned (.string ⟨J.toArray⟩) ∧ Below wr.heap.size wr w') := Lib.hid (by rw [← hJ]; exact hjn)
        rw [hJ] at hjp hjl
        have HJP := Lib.hid hjp
        have hsJ : (⟨J.toArray⟩ : ByteArray).size = J.length := bs_size J
        obtain ⟨SJ, hSJ⟩ : ∃ S : ByteArray, (⟨J.toArray⟩ : ByteArray) = S := ⟨_, rfl⟩
        rw [hSJ] at hsJ
        have HSJ := Lib.hid hSJ
        have hs3 : SJ.size ≤ 1023 := by omega
        clear htl hps hjn HJ hJ hjp hSJ hsJ hjl
        go_wp2_with (go_at_call 74; refine hJ'.out.mono ?_; rw [HSJ.out]; rintro e wx ⟨rfl, hb⟩; (have HQ := Lib.hid (Fr.of f.out.ok hb)); clear hb)
        go_ret2
        exact ⟨⟨_, 0, rfl, by rw [HGood.out]; simp, fun _ => by rw [← HJP.out, HSJ.out]⟩, f.out.trans HQ.out⟩
end Go.Proofs.YtlnaeppbhjmocaaDoor
set_option linter.unusedSimpArgs false
set_option linter.unusedVariables false
namespace Go.Proofs.YtlnaeppbhjmocaaDoor
open Go.RowKit Go.Proofs Go.Proofs.YtlnaeppbhjmocaaDoorW.PrintWords Go.Proofs.YtlnaeppbhjmocaaDoorW.PrintMore

/-! ### An error stays -/
theorem numX_err {L : List Int} {n : Nat} {lo hi : Int} {o : Er} {e : Int} (h : o = .error e) : (numX L n lo hi o).2 = .error e := by subst h; rfl
theorem takeX_err {L : List Int} {n : Nat} {o : Er} {e : Int} (h : o = .error e) : (takeX L n o).2 = .error e := by subst h; rfl
theorem leafX_s (gt : ByteArray → ByteArray → Bool) (L : List Int) (dry : Bool) (ns : List ByteArray) (dir : Bool) (o : Er) : leafX gt L dry ns dir o =
    leafE gt L dry ns (numX L 1 0 (mostX ns dir) o).1.toNat (numX L 1 1 3 (numX L 1 0 (mostX ns dir) o).2).1 (numX L 2 0 4095 (numX L 1 1 3 (numX L 1 0 (mostX ns dir) o).2).2).1
      (numX L 8 0 18446744073709551615 (numX L 2 0 4095 (numX L 1 1 3 (numX L 1 0 (mostX ns dir) o).2).2).2).1
      (takeX L (numX L 1 1 63 (numX L 8 0 18446744073709551615 (numX L 2 0 4095 (numX L 1 1 3 (numX L 1 0 (mostX ns dir) o).2).2).2).2).1.toNat (numX L 1 1 63 (numX L 8 0 18446744073709551615 (numX L 2 0 4095 (numX L 1 1 3 (numX L 1 0 (mostX ns dir) o).2).2).2).2).2).1
      (takeX L (numX L 1 1 63 (numX L 8 0 18446744073709551615 (numX L 2 0 4095 (numX L 1 1 3 (numX L 1 0 (mostX ns dir) o).2).2).2).2).1.toNat (numX L 1 1 63 (numX L 8 0 18446744073709551615 (numX L 2 0 4095 (numX L 1 1 3 (numX L 1 0 (mostX ns dir) o).2).2).2).2).2).2 := by
  unfold leafX leafE
  dsimp only
  all_goals
    generalize (takeX L (numX L 1 1 63 (numX L 8 0 18446744073709551615 (numX L 2 0 4095 (numX L 1 1 3 (numX L 1 0 (mostX ns dir) o).2).2).2).2).1.toNat (numX L 1 1 63 (numX L 8 0 18446744073709551615 (numX L 2 0 4095 (numX L 1 1 3 (numX L 1 0 (mostX ns dir) o).2).2).2).2).2) = q
    obtain ⟨q1, q2⟩ := q
    cases q2 <;> rfl
theorem leafE_err {gt : ByteArray → ByteArray → Bool} {L : List Int} {dry : Bool} {ahead : List ByteArray} {k : Nat} {ty mo st : Int} {nb : List Int} {o : Er} {e : Int} (h : o = .error e) : (leafE gt L dry ahead k ty mo st nb o).2 = .error e := by subst h; rfl
section
variable {gt : ByteArray → ByteArray → Bool} {L : List Int} {dry : Bool} {ns : List ByteArray} {dir : Bool} {o o1 o2 o3 o4 o5 : Er} {e k t m s l : Int}
theorem leafX_e1 (h : (numX L 1 0 (mostX ns dir) o).2 = .error e) : (leafX gt L dry ns dir o).2 = .error e := by
  rw [leafX_s]; exact leafE_err (takeX_err (numX_err (numX_err (numX_err (numX_err h)))))
theorem leafX_e2 (h1 : numX L 1 0 (mostX ns dir) o = (k, o1)) (h : (numX L 1 1 3 o1).2 = .error e) : (leafX gt L dry ns dir o).2 = .error e := by
  rw [leafX_s, h1]; exact leafE_err (takeX_err (numX_err (numX_err (numX_err h))))
theorem leafX_e3 (h1 : numX L 1 0 (mostX ns dir) o = (k, o1)) (h2 : numX L 1 1 3 o1 = (t, o2)) (h : (numX L 2 0 4095 o2).2 = .error e) : (leafX gt L dry ns dir o).2 = .error e := by
  rw [leafX_s, h1]; dsimp only; rw [h2]; exact leafE_err (takeX_err (numX_err (numX_err h)))
theorem leafX_e4 (h1 : numX L 1 0 (mostX ns dir) o = (k, o1)) (h2 : numX L 1 1 3 o1 = (t, o2)) (h3 : numX L 2 0 4095 o2 = (m, o3)) (h : (numX L 8 0 18446744073709551615 o3).2 = .error e) : (leafX gt L dry ns dir o).2 = .error e := by
  rw [leafX_s, h1]; dsimp only; rw [h2]; dsimp only; rw [h3]; exact leafE_err (takeX_err (numX_err h))
theorem leafX_e5 (h1 : numX L 1 0 (mostX ns dir) o = (k, o1)) (h2 : numX L 1 1 3 o1 = (t, o2)) (h3 : numX L 2 0 4095 o2 = (m, o3)) (h4 : numX L 8 0 18446744073709551615 o3 = (s, o4)) (h : (numX L 1 1 63 o4).2 = .error e) : (leafX gt L dry ns dir o).2 = .error e := by
  rw [leafX_s, h1]; dsimp only; rw [h2]; dsimp only; rw [h3]; dsimp only; rw [h4]; exact leafE_err (takeX_err h)
theorem leafX_6 (h1 : numX L 1 0 (mostX ns dir) o = (k, o1)) (h2 : numX L 1 1 3 o1 = (t, o2)) (h3 : numX L 2 0 4095 o2 = (m, o3)) (h4 : numX L 8 0 18446744073709551615 o3 = (s, o4)) (h5 : numX L 1 1 63 o4 = (l, o5)) :
    leafX gt L dry ns dir o = leafE gt L dry ns k.toNat t m s (takeX L l.toNat o5).1 (takeX L l.toNat o5).2 := by
  rw [leafX_s, h1]; dsimp only; rw [h2]; dsimp only; rw [h3]; dsimp only; rw [h4]; dsimp only; rw [h5]
end

theorem goodNames_bad {gt : ByteArray → ByteArray → Bool} {ns : List ByteArray} {nm PN : ByteArray} {k : Nat} (hns : ∀ n ∈ ns, nameB n = true) (hgt : k < ns.length → gt nm (ns.getD k ⟨#[]⟩) = true) (hP : pathOf (ns.take k ++ [nm]) = PN) :
    goodNames (ns.take k ++ [nm]) = !badB gt nm ns k PN := by
  have hall : (ns.take k ++ [nm]).all nameB = nameB nm := by
    rw [List.all_append]
    have : (ns.take k).all nameB = true := List.all_eq_true.2 (fun n hn => hns n (List.mem_of_mem_take hn))
    rw [this]; simp
  have hg : (decide (k < ns.length) && !gt nm (ns.getD k ⟨#[]⟩)) = false := by
    by_cases h : k < ns.length
    · rw [hgt h]; simp
    · simp [h]
  unfold goodNames badB
  rw [hall, hP, hg, Bool.or_false, Bool.not_or, Bool.not_not]
  congr 1
  by_cases h : 1023 < PN.size
  · rw [decide_eq_true h, decide_eq_false (by omega)]; rfl
  · rw [decide_eq_false h, decide_eq_true (by omega)]; rfl
/-- names, a row of the call's own -/
def NO (w : World) (B : Nat) (v : Value) (ns : List ByteArray) : Prop := w.ownsRow B 9 1 v ns.length (ns.map Value.string)
theorem NO.fr {w w' : World} {B : Nat} {v : Value} {ns : List ByteArray} (h : NO w B v ns) (q : Fr w w') : NO w' B v ns := own_fr h q
theorem NO.keep {w w' : World} {B g : Nat} {v : Value} {ns : List ByteArray} (h : NO w B v ns) (q : w.grownBy w' (some g)) (hg : g < B) : NO w' B v ns := own_keep h q (fun k hk => by have := (World.ownsRow.lt h k hk).1; omega)
theorem NO.blk {w w' : World} {B g : Nat} {v : Value} {ns : List ByteArray} (h : NO w B v ns) (q : w.grownBy w' (some g)) {cs : Array Value} {t : TypeId} (H : w.heap[g]? = some (.cells cs t (0, 0))) (ht : 9 ≠ t) : NO w' B v ns := own_grown h q H ht
theorem NO.own {w w' : World} {B b s n : Nat} {v v2 : Value} {e : TypeId} {ns : List ByteArray} {xs : List Value} (h : NO w B v ns) (q : w.grownBy w' v2.ownBlock) (O : w.ownsRow b e s v2 n xs) (ht : 9 ≠ e) : NO w' B v ns := World.ownsRow.kept h q (own_ne2 h O ht)
theorem NO.low {w : World} {B B' : Nat} {v : Value} {ns : List ByteArray} (h : NO w B v ns) (hb : B' ≤ B) : NO w B' v ns := own_low h hb
theorem NO.nil (w : World) (B : Nat) : NO w B (.slice none 0 0) [] := ⟨by simp, .inl ⟨rfl, rfl⟩⟩
theorem NO.src {w : World} {B c : Nat} {A : Option Addr} {ns : List ByteArray} (h : NO w B (.slice A ns.length c) ns) (k : Nat) (hk : k ≤ ns.length) : Src w A k (if A = none then 0 else c) ((ns.take k).map Value.string) := by
  rcases h.2 with ⟨hv, h0⟩ | ⟨g, cap, cur, hv, _⟩
  · injection hv with e1 e2 e3
    subst e1
    have : ns = [] := List.eq_nil_of_length_eq_zero h0
    subst this
    exact .inl ⟨rfl, by simp at hk; omega, by simp, by simp⟩
  · injection hv with e1 e2 e3
    subst e1 e3
    refine .inr ⟨_, rfl, fun j u hj => ?_⟩
    refine World.ownsRow.cells h (g := g) rfl j u ?_
    rw [List.getElem?_map] at hj ⊢
    have hjl : j < (ns.take k).length := by
      by_cases hh : j < (ns.take k).length
      · exact hh
      · rw [List.getElem?_eq_none (by omega)] at hj; cases hj
    rw [List.getElem?_take_of_lt (by rw [List.length_take] at hjl; omega)] at hj
    exact hj
theorem NO.at {w : World} {B g c n : Nat} {ns : List ByteArray} (h : NO w B (.slice (some ⟨g, 0, none⟩) n c) ns) (i : Nat) (hi : i < ns.length) : w.cell? ⟨g, i, none⟩ = some (.string ns[i]) := by
  have hn : n = ns.length := by
    obtain ⟨a, c', he⟩ := own_form h
    injection he
  subst hn
  have := World.ownsRow.cells h (g := g) rfl i (.string ns[i]) (by simp [hi])
  rwa [Lib.add_plain, Nat.zero_add] at this
theorem NO.form {w : World} {B : Nat} {v : Value} {ns : List ByteArray} (h : NO w B v ns) : (v = .slice none 0 0 ∧ ns = []) ∨ ∃ g c, v = .slice (some ⟨g, 0, none⟩) ns.length c ∧ ns.length ≤ c ∧ B ≤ g ∧ g < w.heap.size := by
  rcases h.2 with ⟨hv, h0⟩ | ⟨g, cap, cur, hv, hb, hg, hn, _⟩
  · exact .inl ⟨hv, List.eq_nil_of_length_eq_zero h0⟩
  · exact .inr ⟨g, cap, hv, hn, hb, (Array.getElem?_eq_some_iff.1 hg).1⟩
theorem info_string : ∃ i, Tryd.prog.info? 9 = some i ∧ i.zero = some (.string ⟨#[]⟩) ∧ i.size = 1 ∧ i.bytes = 16 := by
  have : (Tryd.prog.info? 9).map (fun i => (i.zero, i.size, i.bytes)) = some (some (.string ⟨#[]⟩), 1, 16) := by kernel_rfl
  obtain ⟨i, hi, he⟩ := Option.map_eq_some_iff.1 this
  injection he with e1 e2
  injection e2 with e2 e3
  exact ⟨i, hi, e1, e2, e3⟩
end Go.Proofs.YtlnaeppbhjmocaaDoor
set_option linter.unusedSimpArgs false
set_option linter.unusedVariables false
namespace Go.Proofs.YtlnaeppbhjmocaaDoor
open Go.RowKit Go.Proofs Go.Proofs.YtlnaeppbhjmocaaDoorW.PrintWords Go.Proofs.YtlnaeppbhjmocaaDoorW.PrintMore

/-- what leaf ends with -/
def LeafOut (X : Int → Prop) (B : Nat) (g : Nat) (A : Option Addr) (c : Nat) (L : List Int) (P : (Lf × List ByteArray) × Er) (e : Ending) (w' : World) : Prop :=
  (∃ x, X x ∧ e = gaveUp x) ∨ ∃ lf ns j a d na nd, P = ((lf, ns), .ok j) ∧ e = .returned (.tuple #[.agg #[.string lf.path, .int .i64 lf.ty, .int .i64 lf.mode, .int .u64 lf.stamp, .slice a lf.data.length d, .string lf.tgt], .slice na ns.length nd]) ∧
    OwnB w' B (.slice a lf.data.length d) lf.data ∧ NO w' B (.slice na ns.length nd) ns ∧ PB w' g A c L j ∧ j ≤ L.length

set_option maxHeartbeats 25600000 in
set_option maxRecDepth 100000 in
theorem pleaf_any (X : Int → Prop) (g gb ob c : Nat) (L : List Int) (i : Nat) (w : World) (hw : Ok w) (H : PB w g (some ⟨gb, ob, none⟩) c L i) (hi : i ≤ L.length) (hA : BytesAt w (some ⟨gb, ob, none⟩) L) (hgb : gb ≠ g) (hb : bytesOk L) (hc : L.length ≤ c) (hL : L.length ≤ 1073741824) (hg : 4 ≤ g)
    (ns : List ByteArray) (A : Option Addr) (cn B : Nat) (dir : Bool) (HN : NO w B (.slice A ns.length cn) ns) (hgB : g < B) (hBw : B ≤ w.heap.size) (hns : ∀ n ∈ ns, nameB n = true) (hd : ns.length ≤ 64) (hne : dir = true ∨ ns ≠ [])
    (hX : ∀ e, (leafX gtB L false ns dir (.ok i)).2 = .error e → X e) :
    Calls Tryd.prog 57 #[.pointer (some ⟨g, 0, none⟩), .slice A ns.length cn, .bool dir] w fun e w' => w.grownBy w' (some g) ∧ LeafOut X w.heap.size g (some ⟨gb, ob, none⟩) c L (leafX gtB L false ns dir (.ok i)) e w' := by
  have hmr := mostX_rg hne
  obtain ⟨mo, hmo⟩ : ∃ m, mostX ns dir = m := ⟨_, rfl⟩
  rw [hmo] at hmr
  obtain ⟨m1, hm1⟩ : ∃ m : Int, (ns.length : Int) - (if dir = true then 0 else 1) = m := ⟨_, rfl⟩
  have hmx : (if m1 > 63 then 63 else m1) = mo := by rw [← hmo, ← hm1]; unfold mostX; cases dir <;> rfl
  have hm1r : 0 ≤ m1 ∧ m1 ≤ ns.length := by
    rw [← hm1]
    rcases hne with h | h
    · subst h; simp
    · have := List.length_pos_iff.mpr h
      cases dir <;> simp <;> omega
  have hmons : mo ≤ ns.length := by rw [← hmx]; split <;> omega
  obtain ⟨XX, hXX⟩ : ∃ P, leafX gtB L false ns dir (.ok i) = P := ⟨_, rfl⟩
  rw [hXX] at hX ⊢
  have hgS : ∀ a, ((some ⟨gb, ob, none⟩) : Option Addr) = some a → some a.block ≠ some g := fun a e k => by injection e with e; subst e; injection k with k; exact hgb k
  have hNu := Lib.hid (fun (W : World) (gr : w.grownBy W (some g)) i HR hi s lo hi' h1 hx => num_or X g gb ob c L i s lo hi' W (hw.grown hg gr) HR hi (hA.grown gr hgS) hgb hb h1 hc hL hg hx)
  have hTk := Lib.hid (fun (W : World) (gr : w.grownBy W (some g)) i HR hi k h1 hx => take_or X g gb ob c L i k W (hw.grown hg gr) HR hi (hA.grown gr hgS) hgb h1 hc hL hg hx)
  have hDa := Lib.hid (fun (W : World) (gr : w.grownBy W (some g)) i HR hi hx => pdata_any X g gb ob c L i W (hw.grown hg gr) HR hi (hA.grown gr hgS) hgb hb hc hL hg hx)
  have hok := Lib.hid (fun (W : World) (gr : w.grownBy W (some g)) => hw.grown hg gr)
  obtain ⟨w2, g2, hg2, hw2, f, hz2, H2⟩ := boxedN hw #[.string ⟨#[]⟩, .int .i64 0, .int .i64 0, .int .u64 0, .slice none 0 0, .string ⟨#[]⟩] 45
  have hgw : g < w.heap.size := (Array.getElem?_eq_some_iff.mp H).1
  have hq2 : g2 ≠ g := by omega
  have l2 : w.heap.size ≤ g2 := by omega
  have HR := PB.fr H f
  have gr := fr_grown f (some g)
  replace HN := HN.fr f
  have HX := Lib.hid hX
  have HXX := Lib.hid hXX
  have HMO := Lib.hid hmo
  have HM1 := Lib.hid hm1
  have HMX := Lib.hid hmx
  have HBy := Lib.hid hb
  have HNS := Lib.hid hns
  have hX1 : Hid (∀ e, (numX L 1 0 mo (.ok i)).2 = .error e → X e) := Lib.hid (fun e h => HX.out e (by rw [← HXX.out]; exact leafX_e1 (by rw [HMO.out]; exact h)))
  clear hX hXX hmo hm1 hmx hb hns H f hne hz2
  go_enter Tryd.func57, Tryd.ntmps57
  go_upto_if 18 with fail
  go_cut [8] (fun v8 wc => v8 = .int .i64 m1 ∧ wc = w2)
  case first =>
    cases dir with
    | true =>
      have hv : (ns.length : Int) = m1 := by rw [← HM1.out]; simp
      have HV := Lib.hid hv
      clear hv
      go_wp2_with fail
      go_meet
      exact ⟨by rw [HV.out], rfl⟩
    | false =>
      have hv : (ns.length : Int) - 1 = m1 := by rw [← HM1.out]; simp
      have hv0 : (1 : Int) ≤ ns.length := by omega
      have HV := Lib.hid hv
      clear hv
      go_wp2_with fail
      go_meet
      exact ⟨by rw [HV.out], rfl⟩
  case rest =>
    obtain ⟨rfl, rfl⟩ := hcut
    have hmin : min m1 63 = mo := by rw [← HMX.out]; split <;> omega
    have wmo : IntKind.u64.wrap mo = mo := u64_in ⟨by omega, by omega⟩
    have tok1 : True := trivial
    go_upto_region 9 with (first
      | (go_at_call 56; have _t := tok1; go_loud (have ct := hNu.out _ gr i HR hi 1 0 mo (by omega) hX1.out); refine ct.mono ?_; clear ct; rintro e wa ⟨q, ⟨cc, hcc, he⟩ | ⟨k, j1, e1, rfl, HRa, hj1, _, hk, hk0⟩⟩; (· (unfold gaveUp at he; subst he; exact ⟨rfl, (grown_trans gr q), .inl ⟨cc, hcc, rfl⟩⟩)); go_loud (replace gr := grown_trans gr q; replace H2 := grown_blk' q H2 (fun k => hq2 (by injection k)); replace HN := HN.keep q hgB); clear q HR; have HR := HRa; clear HRa; have E1 := Lib.hid e1; go_loud (have hX2 : Hid (∀ e, (numX L 1 1 3 (.ok j1)).2 = .error e → X e) := Lib.hid (fun e h => HX.out e (by rw [← HXX.out]; exact leafX_e2 (by rw [HMO.out]; exact E1.out) h))); clear e1 tok1 hmin wmo; obtain ⟨kk, hkk⟩ : ∃ n : Nat, k = (n : Int) := ⟨_, (Int.toNat_of_nonneg hk0).symm⟩; subst hkk; have wk : IntKind.i64.wrap (kk : Int) = (kk : Int) := IntWalk.i64_in _ ⟨by omega, by omega⟩; have tok2 : True := trivial)
      | (go_at_call 56; have _t := tok2; go_loud (have ct := hNu.out _ gr j1 HR hj1 1 1 3 (by omega) hX2.out); refine ct.mono ?_; clear ct; rintro e wa2 ⟨q, ⟨cc, hcc, he⟩ | ⟨t', j2, e1, rfl, HRa, hj2, ht1, ht3, _⟩⟩; (· (unfold gaveUp at he; subst he; exact ⟨rfl, (grown_trans gr q), .inl ⟨cc, hcc, rfl⟩⟩)); replace gr := grown_trans gr q; replace H2 := grown_blk' q H2 (fun k => hq2 (by injection k)); replace HN := HN.keep q hgB; clear q HR; have HR := HRa; clear HRa; have E2 := Lib.hid e1; (have hX3 : Hid (∀ e, (numX L 2 0 4095 (.ok j2)).2 = .error e → X e) := Lib.hid (fun e h => HX.out e (by rw [← HXX.out]; exact leafX_e3 (by rw [HMO.out]; exact E1.out) E2.out h))); clear e1 tok2 wk; have wt : IntKind.i64.wrap t' = t' := IntWalk.i64_in _ ⟨by omega, by omega⟩; have tok3 : True := trivial)
      | (go_at_call 56; have _t := tok3; go_loud (obtain ⟨w3, g3, hg3, hw3, f3, hz3, H3⟩ := boxedN (hw.grown hg gr) #[.string ⟨#[]⟩, .int .i64 t', .int .i64 0, .int .u64 0, .slice none 0 0, .string ⟨#[]⟩] 45; rw [hw3, hg3]; have l3 : w.heap.size ≤ g3 := (by have := gr.size; omega); have hq3 : g3 ≠ g := (by omega); have n2 : g2 ≠ g3 := (by have := (Array.getElem?_eq_some_iff.mp H2).1; omega)); go_loud (replace H2 := f3.heap H2; replace HR := HR.fr f3; replace HN := HN.fr f3; replace gr := grown_fr gr f3; clear f3 wt); go_loud (have ct := hNu.out _ gr j2 HR hj2 2 0 4095 (by omega) hX3.out); refine ct.mono ?_; clear ct; rintro e wa3 ⟨q, ⟨cc, hcc, he⟩ | ⟨m', j3, e1, rfl, HRa, hj3, hm0, hm3, _⟩⟩; (· (unfold gaveUp at he; subst he; exact ⟨rfl, (grown_trans gr q), .inl ⟨cc, hcc, rfl⟩⟩)); replace gr := grown_trans gr q; replace H2 := grown_blk' q H2 (fun k => hq2 (by injection k)); replace HN := HN.keep q hgB; replace H3 := grown_blk' q H3 (fun k => hq3 (by injection k)); clear q HR; have HR := HRa; clear HRa; have E3 := Lib.hid e1; (have hX4 : Hid (∀ e, (numX L 8 0 18446744073709551615 (.ok j3)).2 = .error e → X e) := Lib.hid (fun e h => HX.out e (by rw [← HXX.out]; exact leafX_e4 (by rw [HMO.out]; exact E1.out) E2.out E3.out h))); clear e1 tok3; have wmm : IntKind.i64.wrap m' = m' := IntWalk.i64_in _ ⟨by omega, by omega⟩; have tok4 : True := trivial; have y3 := unfroz H3 2; have y3c := (blk6 H3).2.2.1; obtain ⟨wb, hwb, HM, q⟩ := set_grown H3 2 (.int .i64 m'); simp only [List.setIfInBounds_toArray, List.set_cons_zero, List.set_cons_succ] at HM; replace gr := grown_own gr q (fun i h => by injection h with h; omega); replace HR := HR.grown q (fun h => hq3 (by injection h with h; exact h.symm)); replace H2 := grown_blk' q H2 (fun k => n2 (by injection k)); replace HN := HN.blk q H3 (by decide); clear q; clear H3; have H3 := HM; clear HM)
      | (go_at_call 56; have _t := tok4; clear y3 y3c hwb wmm; go_loud (have ct := hNu.out _ gr j3 HR hj3 8 0 18446744073709551615 (by omega) hX4.out); refine ct.mono ?_; clear ct; rintro e wa4 ⟨q, ⟨cc, hcc, he⟩ | ⟨s', j4, e1, rfl, HRa, hj4, hs0, hs1, _⟩⟩; (· (unfold gaveUp at he; subst he; exact ⟨rfl, (grown_trans gr q), .inl ⟨cc, hcc, rfl⟩⟩)); replace gr := grown_trans gr q; replace H2 := grown_blk' q H2 (fun k => hq2 (by injection k)); replace HN := HN.keep q hgB; replace H3 := grown_blk' q H3 (fun k => hq3 (by injection k)); clear q HR; have HR := HRa; clear HRa; have E4 := Lib.hid e1; (have hX5 : Hid (∀ e, (numX L 1 1 63 (.ok j4)).2 = .error e → X e) := Lib.hid (fun e h => HX.out e (by rw [← HXX.out]; exact leafX_e5 (by rw [HMO.out]; exact E1.out) E2.out E3.out E4.out h))); clear e1 tok4; have tok5 : True := trivial; have y4 := unfroz H3 3; have y4c := (blk6 H3).2.2.2.1; obtain ⟨wb2, hwb2, HM, q⟩ := set_grown H3 3 (.int .u64 s'); simp only [List.setIfInBounds_toArray, List.set_cons_zero, List.set_cons_succ] at HM; replace gr := grown_own gr q (fun i h => by injection h with h; omega); replace HR := HR.grown q (fun h => hq3 (by injection h with h; exact h.symm)); replace H2 := grown_blk' q H2 (fun k => n2 (by injection k)); replace HN := HN.blk q H3 (by decide); clear q; clear H3; have H3 := HM; clear HM)
      | (go_at_call 56; have _t := tok5; clear y4 y4c hwb2; go_loud (have ct := hNu.out _ gr j4 HR hj4 1 1 63 (by omega) hX5.out); refine ct.mono ?_; clear ct; rintro e wa5 ⟨q, ⟨cc, hcc, he⟩ | ⟨l', j5, e1, rfl, HRa, hj5, hl1, hl63, hl0⟩⟩; (· (unfold gaveUp at he; subst he; exact ⟨rfl, (grown_trans gr q), .inl ⟨cc, hcc, rfl⟩⟩)); replace gr := grown_trans gr q; replace H2 := grown_blk' q H2 (fun k => hq2 (by injection k)); replace HN := HN.keep q hgB; replace H3 := grown_blk' q H3 (fun k => hq3 (by injection k)); clear q HR; have HR := HRa; clear HRa; have E5 := Lib.hid e1; clear e1 tok5; obtain ⟨ll, hll⟩ : ∃ n : Nat, l' = (n : Int) := ⟨_, (Int.toNat_of_nonneg hl0).symm⟩; subst hll; have wl : IntKind.i64.wrap (ll : Int) = (ll : Int) := IntWalk.i64_in _ ⟨by omega, by omega⟩; (have HX6 : Hid (XX = leafE gtB L false ns kk t' m' s' (takeX L ll (.ok j5)).1 (takeX L ll (.ok j5)).2) := Lib.hid (by have h := leafX_6 (gt := gtB) (dry := false) (by rw [HMO.out]; exact E1.out) E2.out E3.out E4.out E5.out; rw [Int.toNat_natCast, Int.toNat_natCast] at h; exact HXX.out.symm.trans h)); (have hX6 : Hid (∀ e, (takeX L ll (.ok j5)).2 = .error e → X e) := Lib.hid (fun e h => HX.out e (by rw [HX6.out]; exact leafE_err h))); have tok6 : True := trivial)
      | (go_at_call 37; have _t := tok6; go_loud (have ct := hTk.out _ gr j5 HR hj5 ll (by omega) hX6.out); refine ct.mono ?_; clear ct; rintro e wn ⟨q, ⟨cc, hcc, he⟩ | ⟨nb, o', dn, e1, rfl, hdn, hbl, hBn, HRa, hjl⟩⟩; (· (unfold gaveUp at he; subst he; exact ⟨rfl, (grown_trans gr q), .inl ⟨cc, hcc, rfl⟩⟩)); go_loud (replace gr := grown_trans gr q; replace H2 := grown_blk' q H2 (fun k => hq2 (by injection k)); replace HN := HN.keep q hgB; replace H3 := grown_blk' q H3 (fun k => hq3 (by injection k)); clear q HR; have HR := HRa; clear HRa); have E6 := Lib.hid e1; clear e1 tok6 wl; subst hbl; go_loud (have hcv := conv_str wn hBn (by omega) dn); (obtain ⟨nm, hnm⟩ : ∃ s, strOfNums nb = s := ⟨_, rfl⟩); rw [hnm] at hcv; have HNM := Lib.hid hnm; clear hnm))
    have hnms : nm.size ≤ 63 := by rw [← HNM.out, str_size]; omega
    have hkn : kk ≤ ns.length := by omega
    obtain ⟨iS, hiS, hzS, hsS, hyS⟩ := info_string
    have hsrc := NO.src HN kk hkn
    have HF0 := Lib.hid (And.intro H2 (And.intro H3 (And.intro HN HR)))
    obtain ⟨v6, w6, hap6, O6, q6, hob6⟩ := append_src Tryd.underlying75 hiS hzS hsS hyS rfl (by decide) 75 (NO.nil wn w.heap.size) A kk (if A = none then 0 else cn) _ hsrc (by rw [List.length_map, List.length_take]; omega) (fun u hu => by obtain ⟨x, _, rfl⟩ := List.mem_map.1 hu; rfl) (by simp [maxLen]; omega) (by simp; omega) gr.size
    rw [show ([] : List ByteArray).length + kk = kk by simp, show ([] : List ByteArray).map Value.string ++ (ns.take kk).map Value.string = (ns.take kk).map Value.string by simp] at O6
    have gr6 : w.grownBy w6 (some g) := grown_trans gr (grown_none q6)
    have H26 := grown_blk' q6 H2 (by simp [Value.ownBlock])
    have H36 := grown_blk' q6 H3 (by simp [Value.ownBlock])
    have q6' : wn.grownBy w6 none := q6
    have HN6 : NO w6 B (.slice A ns.length cn) ns := World.ownsRow.kept (row := none) HN q6' (by cases (Value.slice A ns.length cn).ownBlock <;> simp)
    have HR6 := HR.grown q6 (by simp [Value.ownBlock])
    obtain ⟨w7, g7, hg7, hw7, f7, hz7, H7⟩ := boxedN (hok.out _ gr6) #[.string nm] 9
    have O7 := own_fr O6 f7
    obtain ⟨v8, w8, hap8, O8, q8, hob8⟩ := append_src Tryd.underlying75 hiS hzS hsS hyS rfl (by decide) 75 O7 (some ⟨g7, 0, none⟩) 1 1 _ (Src.lit H7 1 1) (by simp) (by simp [Value.oneCell']) (by unfold maxLen; omega) (by omega) (by have := gr6.size; have := f7.size; omega)
    obtain ⟨g12, c12, hv8, hb12, hl12⟩ := World.ownsRow.form O8 (by omega)
    subst hv8
    have hne8 : some g3 ≠ v6.ownBlock ∧ some g2 ≠ v6.ownBlock ∧ some g ≠ v6.ownBlock := by
      have h1 := (Array.getElem?_eq_some_iff.1 H3).1
      have h2 := (Array.getElem?_eq_some_iff.1 H2).1
      have h3 := (Array.getElem?_eq_some_iff.1 HR).1
      rcases hob6 with e | e
      · rw [e]; exact ⟨by simp [Value.ownBlock], by simp [Value.ownBlock], by simp [Value.ownBlock]⟩
      · rw [e]; refine ⟨?_, ?_, ?_⟩ <;> (intro e2; injection e2 with e2; omega)
    have H28 := grown_blk' q8 (f7.heap H26) hne8.2.1
    have H38 := grown_blk' q8 (f7.heap H36) hne8.1
    have HR8 := (HR6.fr f7).grown q8 hne8.2.2
    have gr8 : w.grownBy w8 (some g) := grown_own (grown_fr gr6 f7) q8 (fun k hk => (World.ownsRow.lt O7 k hk).1)
    have HN8 : NO w8 B (.slice A ns.length cn) ns := World.ownsRow.kept (HN6.fr f7) q8 (by
      rcases hob6 with e | e
      · rw [e]; show _ ∨ _ ≠ none; cases (Value.slice A ns.length cn).ownBlock <;> simp
      · right; rw [e]; intro e2
        have := (World.ownsRow.lt HN _ e2).2; omega)
    have HNN : Hid (NO w8 w.heap.size (.slice (some ⟨g12, 0, none⟩) (kk + 1) c12) (ns.take kk ++ [nm])) := Lib.hid (by
      unfold NO
      rw [List.length_append, List.length_take, Nat.min_eq_left hkn, List.map_append]
      exact O8)
    have HFm := HN.form
    have HF1 := Lib.hid (And.intro H28 (And.intro H38 (And.intro gr8 (And.intro HN8 HR8))))
    clear H28 H38 HR8 gr8 HN8 O8 hne8 hob8 q8 O7 f7 HR6 HN6 H36 H26 gr6 q6 q6' O6 hsrc HR HN H2 H3 gr hob6 hb12 HF0
    go_cut [12] (fun v12 wc => v12 = .slice (some ⟨g12, 0, none⟩) (kk + 1) c12 ∧ wc = w8)
    case first =>
      have tokA : True := trivial
      have k0 : (0 : Int) ≤ (kk : Int) := by omega
      rcases HFm with ⟨hv, hnil⟩ | ⟨ga, ca, hv, hca, _, _⟩
      · injection hv with e1 e2 e3
        subst e1 e3
        have hk0 : kk = 0 := by rw [hnil] at hkn; simpa using hkn
        subst hk0
        rw [if_pos rfl] at hap6
        clear e2 hnil
        go_wp2_with (first
          | (at_builtin; have _t := tokA; refine wpList_append_run rfl _ _ 75 75 rfl (by simp [Act.eval]) (by simp [Act.eval]) hap6 ?_; clear tokA)
          | (at_builtin; refine wpList_append_run rfl _ _ 75 75 rfl (by simp [Act.eval]) (by simp [Act.eval]) hap8 ?_))
        go_meet
        exact ⟨rfl, rfl⟩
      · injection hv with e1 e2 e3
        subst e1 e3
        have k1 : (kk : Int) ≤ (cn : Int) := by omega
        rw [if_neg (by simp)] at hap6
        clear e2
        go_wp2_with (first
          | (at_builtin; have _t := tokA; refine wpList_append_run rfl _ _ 75 75 rfl (by simp [Act.eval]) (by simp [Act.eval]) hap6 ?_; clear tokA)
          | (at_builtin; refine wpList_append_run rfl _ _ 75 75 rfl (by simp [Act.eval]) (by simp [Act.eval]) hap8 ?_))
        go_meet
        exact ⟨rfl, rfl⟩
    case rest =>
      obtain ⟨rfl, rfl⟩ := hcut
      obtain ⟨H2, H3, gr, HN, HR⟩ := HF1.out
      clear hap6 hap8 HFm HF1
      obtain ⟨PN, hPN⟩ : ∃ P, pathOf (ns.take kk ++ [nm]) = P := ⟨_, rfl⟩
      have HPN := Lib.hid hPN
      obtain ⟨u1, hu1⟩ : ∃ b, (nm.toList == [46, 46]) = b := ⟨_, rfl⟩
      obtain ⟨u2, hu2⟩ : ∃ b, ((kk : Int) == (ns.length : Int)) = b := ⟨_, rfl⟩
      have hX191 : Hid (badB gtB nm ns kk PN = true → X 191) := Lib.hid (fun h => HX.out 191 (by
        rw [HX6.out, E6.out]; dsimp only; rw [leafE_bad h HNM.out HPN.out]))
      have hup : u1 = true → badB gtB nm ns kk PN = true := fun h => badB_iff.2 (.inl (by
        rw [h] at hu1
        have h2 : nm.toList = [46, 46] := by simpa using hu1
        rw [toL] at h2
        unfold nameB; simp [h2]))
      have HUP := Lib.hid hup
      have hu2' : u2 = true ↔ kk = ns.length := by rw [← hu2]; simp; omega
      have HU2 := Lib.hid hu2'
      have hFr := Fr.refl (hok.out _ gr)
      clear hup hu2' hPN
      go_upto_region 10 with fail
      go_cut [] (fun wc' => wc' = wc ∧ u1 = false ∧ (kk < ns.length → gtB nm (ns.getD kk ⟨#[]⟩) = true))
      case first =>
        have HF2 := Lib.hid gr
        cases u1 with
        | true =>
          have hx := Lib.hid (hX191.out (HUP.out rfl))
          clear H2 H3 gr HN HR hFr
          go_wp2_with (go_at_call 69; refine (must_no _ _).mono ?_; rintro e wy ⟨he, rfl⟩; unfold gaveUp at he; subst he)
          exact ⟨rfl, HF2.out, .inl ⟨191, hx.out, rfl⟩⟩
        | false =>
          cases u2 with
          | true =>
            have hkl := HU2.out.1 rfl
            have HKL := Lib.hid hkl
            clear H2 H3 gr HN HR hkl hFr
            go_wp2_with (go_at_call 69; refine (must_yes _ _).mono ?_; rintro e wy ⟨rfl, rfl⟩)
            go_meet
            exact ⟨rfl, trivial, fun h => absurd h (by have := HKL.out; omega)⟩
          | false =>
            have hkl : kk < ns.length := by
              by_cases h : kk = ns.length
              · have := HU2.out.2 h; cases this
              · omega
            rcases HN.form with ⟨_, hnil⟩ | ⟨ga, ca, hv, hca, _, _⟩
            · rw [hnil] at hkl; simp at hkl
            · injection hv with e1 e2 e3
              subst e1 e3
              have hcell := HN.at kk hkl
              have hgd : ns.getD kk ⟨#[]⟩ = ns[kk] := by simp [List.getD, hkl]
              have i0 : (0 : Int) ≤ (kk : Int) := by omega
              have i1 : (kk : Int) < (ns.length : Int) := by omega
              obtain ⟨x, hx⟩ : ∃ x, ns[kk] = x := ⟨_, rfl⟩
              rw [hx] at hcell hgd
              obtain ⟨u3, hu3⟩ : ∃ b, (Op.bytesLess nm.toList x.toList || nm.toList == x.toList) = b := ⟨_, rfl⟩
              have hg3 : gtB nm (ns.getD kk ⟨#[]⟩) = !u3 := by rw [hgd, ← hu3]; rfl
              have HG3 := Lib.hid hg3
              have HKL := Lib.hid hkl
              clear H2 H3 gr HN HR hkl hg3 hgd hx e2 hFr
              cases u3 with
              | false =>
                go_wp2_with (go_at_call 69; refine (must_yes _ _).mono ?_; rintro e wy ⟨rfl, rfl⟩)
                go_meet
                exact ⟨rfl, trivial, fun _ => by rw [HG3.out]; rfl⟩
              | true =>
                have hx := Lib.hid (hX191.out (badB_iff.2 (.inr (.inl ⟨HKL.out, by rw [HG3.out]; rfl⟩))))
                go_wp2_with (go_at_call 69; refine (must_no _ _).mono ?_; rintro e wy ⟨he, rfl⟩; unfold gaveUp at he; subst he)
                exact ⟨rfl, HF2.out, .inl ⟨191, hx.out, rfl⟩⟩
      case rest =>
        obtain ⟨rfl, hu1t, hgt⟩ := hcut
        have hgn : goodNames (ns.take kk ++ [nm]) = !badB gtB nm ns kk PN := goodNames_bad HNS.out hgt HPN.out
        have hlen : (ns.take kk ++ [nm]).length = kk + 1 := by rw [List.length_append, List.length_take, Nat.min_eq_left hkn]; rfl
        have hcap : kk + 1 ≤ c12 := by
          have h := HNN.out
          unfold NO at h
          rw [hlen] at h
          exact own_cap h
        have hjo := join_any g12 c12 (ns.take kk ++ [nm]) wc (hok.out _ gr) hl12 (fun j hj => NO.at HNN.out j hj) (by rw [hlen]; exact hcap) (by simp) (by rw [hlen]; omega) (fun n hn => by
            rcases List.mem_append.1 hn with h | h
            · exact (nameB_all (HNS.out n (List.mem_of_mem_take h))).2.2.2.2
            · rw [List.mem_singleton.1 h, ← toL]; rw [hu1t] at hu1; simpa using hu1) (fun n hn => by
            rcases List.mem_append.1 hn with h | h
            · exact (nameB_all (HNS.out n (List.mem_of_mem_take h))).2.2.2.1
            · rw [List.mem_singleton.1 h]; exact hnms)
        rw [hlen] at hjo
        have HJO := Lib.hid hjo
        have HGN := Lib.hid hgn
        have HNn := HNN.out
        clear hgn hlen hjo hgt hFr hu1t hu1 hu2 HN HNN hcv H7 hg7 hw7 hiS hzS hsS hyS
        go_upto_block 0 with (first
          | (go_at_call 70; refine HJO.out.mono ?_; rintro e wj ⟨⟨s, x, rfl, hx0, hxs⟩, q⟩; replace H2 := q.heap H2; replace H3 := q.heap H3; replace HR := HR.fr q; replace gr := grown_fr gr q; replace HNn := HNn.fr q; clear q; have HX0 := Lib.hid hx0; have HXS := Lib.hid hxs; clear hx0 hxs)
          | (go_at_call 69; go_loud (refine (must_or X _ _ _ (fun h => hX191.out (by have h2 : ¬ x = 0 := (by simpa using h); have h3 := mt HX0.out.2 h2; rw [HGN.out] at h3; simpa using h3))).mono ?_); rintro e wy ⟨rfl, ⟨cc, hcc, he⟩ | ⟨hb, rfl⟩⟩; (· (unfold gaveUp at he; subst he; exact ⟨rfl, gr, .inl ⟨cc, hcc, rfl⟩⟩)); go_loud (have hgd : goodNames (ns.take kk ++ [nm]) = true := HX0.out.1 (by simpa using hb)); (have HBD : Hid (badB gtB nm ns kk PN = false) := Lib.hid (by rw [HGN.out] at hgd; simpa using hgd)); have hss := HXS.out hgd; rw [HPN.out] at hss; subst hss; clear hb hgd; have y5 := unfroz H3 0; have y5c := (blk6 H3).1; go_loud (obtain ⟨wb4, hwb4, HM, q⟩ := set_grown H3 0 (.string s); simp only [List.setIfInBounds_toArray, List.set_cons_zero, List.set_cons_succ] at HM; replace gr := grown_own gr q (fun i h => by injection h with h; omega); replace HR := HR.grown q (fun h => hq3 (by injection h with h; exact h.symm)); replace H2 := grown_blk' q H2 (fun k => n2 (by injection k)); replace HNn := HNn.blk q H3 (by decide); clear q H3; have H3 := HM; clear HM); have t1 := (blk6 H3).2.1))
        clear y5 y5c hwb4
        have HLN : Hid ((ns.take kk ++ [nm]).length = kk + 1) := Lib.hid (by rw [List.length_append, List.length_take, Nat.min_eq_left hkn]; rfl)
        have hXE : XX = leafE gtB L false ns kk t' m' s' nb (.ok (j5 + nb.length)) := by
          have h := HX6.out
          rw [E6.out] at h
          exact h
        have HXE := Lib.hid hXE
        obtain ⟨jj, hjj⟩ : ∃ j, j5 + nb.length = j := ⟨_, rfl⟩
        rw [hjj] at HXE hjl HR
        clear hXE hjj
        by_cases h1 : t' = 1
        · subst h1
          have hP := HXE.out.trans (leafE_file HBD.out HNM.out HPN.out)
          have HP := Lib.hid hP
          have hxd : Hid (∀ e, (dataR L false (numX L 4 0 16777216 (.ok jj)).1 (numX L 4 0 16777216 (.ok jj)).2).2 = .error e → X e) := Lib.hid (fun e h => HX.out e (by rw [HP.out]; exact h))
          have HSZ := Lib.hid gr.size
          have hb3 := (Array.getElem?_eq_some_iff.1 H3).1
          have hb2 := (Array.getElem?_eq_some_iff.1 H2).1
          clear hP
          go_wp2_with (go_at_call 71; go_loud (refine (hDa.out _ gr jj HR hjl hxd.out).mono ?_); rintro e wd ⟨q, ⟨cc, hcc, he⟩ | ⟨bs, j2, da, dd, hD, rfl, HO, HRa, hj2⟩⟩; (· (unfold gaveUp at he; subst he; exact ⟨rfl, (grown_trans gr q), .inl ⟨cc, hcc, rfl⟩⟩)); replace gr := grown_trans gr q; replace H2 := grown_blk' q H2 (fun k => hq2 (by injection k)); replace H3 := grown_blk' q H3 (fun k => hq3 (by injection k)); replace HNn := HNn.keep q hgw; clear q HR; have HR := HRa; clear HRa; clear t1; have HDD := Lib.hid hD; clear hD; have u4 := unfroz H3 4; have u4c := (blk6 H3).2.2.2.2.1; obtain ⟨wb5, hwb5, HM, q⟩ := set_grown H3 4 (.slice da bs.length dd); simp only [List.setIfInBounds_toArray, List.set_cons_zero, List.set_cons_succ] at HM; replace gr := grown_own gr q (fun i h => by injection h with h; omega); replace HR := HR.grown q (fun h => hq3 (by injection h with h; exact h.symm)); replace H2 := grown_blk' q H2 (fun k => n2 (by injection k)); replace HNn := HNn.blk q H3 (by decide); (have HO2 := Lib.hid (HO.keep q hb3)); clear q H3 HO; have H3 := HM; clear HM; obtain ⟨y0, y1, y2, y3, y4, y5⟩ := blk6 H3; obtain ⟨i0, i1, i2, i3, i4, i5⟩ := blk6 H2; have z0 := unfroz H2 0; have z1 := unfroz H2 1; have z2 := unfroz H2 2; have z3 := unfroz H2 3; have z4 := unfroz H2 4; have z5 := unfroz H2 5; obtain ⟨w9, hw9, q9, H29⟩ := set6all H2 (.string s) (.int .i64 1) (.int .i64 m') (.int .u64 s') (.slice da bs.length dd) (.string ⟨#[]⟩); (have HF := Lib.hid (And.intro (grown_own gr q9 (fun i h => by injection h with h; omega)) (And.intro (PB.grown HR q9 (fun h => hq2 (by injection h with h; exact h.symm))) (And.intro q9 (And.intro H29 (HNn.blk q9 H2 (by decide))))))); (have H2t := Lib.hid H2); clear gr HR q9 H29 H2 H3 HNn)
          refine bodyPost_ret (results_row_tmp rfl _ _ g2 45 _ (0, 0) _ rfl HF.out.2.2.2.1 Tryd.underlying45 rfl (by kernel_rfl)) rfl ?_
          exact ⟨HF.out.1, .inr ⟨⟨s, 1, m', s', bs, ⟨#[]⟩⟩, ns.take kk ++ [nm], j2, _, _, some ⟨g12, 0, none⟩, c12, (by rw [HP.out, HDD.out]), (by rw [HLN.out]; rfl), ((HO2.out.keep HF.out.2.2.1 hb2).low HSZ.out), (by rw [HLN.out]; exact HF.out.2.2.2.2), HF.out.2.1, hj2⟩⟩
        · have d8 : (t' == 1) = false := by simpa using h1
          by_cases h3 : t' = 3
          · subst h3
            have hP := HXE.out.trans (leafE_link HBD.out HNM.out HPN.out)
            have HP := Lib.hid hP
            have hXa : Hid (∀ e, (numX L 1 1 127 (.ok jj)).2 = .error e → X e) := Lib.hid (fun e h => HX.out e (by rw [HP.out]; dsimp only; rw [takeX_err h]; rfl))
            have tok7 : True := trivial
            clear hP h1
            go_wp2_with (first
              | (go_at_call 56; have _t := tok7; go_loud (have ct := hNu.out _ gr jj HR hjl 1 1 127 (by omega) hXa.out); refine ct.mono ?_; clear ct; rintro e wa7 ⟨q, ⟨cc, hcc, he⟩ | ⟨nt, j7, e1, rfl, HRa, hj7, hn1, hn127, hn0⟩⟩; (· (unfold gaveUp at he; subst he; exact ⟨rfl, (grown_trans gr q), .inl ⟨cc, hcc, rfl⟩⟩)); replace gr := grown_trans gr q; replace H2 := grown_blk' q H2 (fun k => hq2 (by injection k)); replace H3 := grown_blk' q H3 (fun k => hq3 (by injection k)); replace HNn := HNn.keep q hgw; clear q HR; have HR := HRa; clear HRa; have E7 := Lib.hid e1; clear e1 tok7 t1; obtain ⟨tt, htt⟩ : ∃ n : Nat, nt = (n : Int) := ⟨_, (Int.toNat_of_nonneg hn0).symm⟩; subst htt; have wtt : IntKind.i64.wrap (tt : Int) = (tt : Int) := IntWalk.i64_in _ ⟨by omega, by omega⟩; (have hXb : Hid (∀ e, (takeX L tt (.ok j7)).2 = .error e → X e) := Lib.hid (fun e h => HX.out e (by rw [HP.out, E7.out]; dsimp only; rw [Int.toNat_natCast, h]; rfl))))
              | (go_at_call 37; go_loud (have ct := hTk.out _ gr j7 HR hj7 tt (by omega) hXb.out); refine ct.mono ?_; clear ct; rintro e wn7 ⟨q, ⟨cc, hcc, he⟩ | ⟨tb, o7, dn7, e1, rfl, hdn7, hbl7, hBn7, HRa, hj8⟩⟩; (· (unfold gaveUp at he; subst he; exact ⟨rfl, (grown_trans gr q), .inl ⟨cc, hcc, rfl⟩⟩)); replace gr := grown_trans gr q; replace H2 := grown_blk' q H2 (fun k => hq2 (by injection k)); replace H3 := grown_blk' q H3 (fun k => hq3 (by injection k)); replace HNn := HNn.keep q hgw; clear q HR; have HR := HRa; clear HRa; have E8 := Lib.hid e1; clear e1 wtt; subst hbl7; go_loud (have hcv := conv_str wn7 hBn7 (by omega) dn7); (obtain ⟨tg, htg⟩ : ∃ s, strOfNums tb = s := ⟨_, rfl⟩); rw [htg] at hcv; have HTG := Lib.hid htg; clear htg; have u5 := unfroz H3 5; have u5c := (blk6 H3).2.2.2.2.2; obtain ⟨wb7, hwb7, HM, q⟩ := set_grown H3 5 (.string tg); simp only [List.setIfInBounds_toArray, List.set_cons_zero, List.set_cons_succ] at HM; replace gr := grown_own gr q (fun i h => by injection h with h; omega); replace HR := HR.grown q (fun h => hq3 (by injection h with h; exact h.symm)); replace H2 := grown_blk' q H2 (fun k => n2 (by injection k)); replace HNn := HNn.blk q H3 (by decide); clear q H3; have H3 := HM; clear HM; have v5 := (blk6 H3).2.2.2.2.2; (have hXc : Hid (targetB tg = false → X 191) := Lib.hid (fun h => HX.out 191 (by rw [HP.out, E7.out]; dsimp only; rw [Int.toNat_natCast, E8.out]; dsimp only; rw [HTG.out, h]; rfl))))
              | (go_at_call 64; refine (goodTarget_any tg _).mono ?_; rintro e wg ⟨rfl, rfl⟩)
              | (go_at_call 69; go_loud (refine (must_or X _ _ _ (fun h => hXc.out h)).mono ?_); rintro e wy ⟨rfl, ⟨cc, hcc, he⟩ | ⟨hb, rfl⟩⟩; (· (unfold gaveUp at he; subst he; exact ⟨rfl, gr, .inl ⟨cc, hcc, rfl⟩⟩)); have HTB := Lib.hid hb; clear hb u5 u5c hwb7 hcv v5; obtain ⟨y0, y1, y2, y3, y4, y5⟩ := blk6 H3; obtain ⟨i0, i1, i2, i3, i4, i5⟩ := blk6 H2; have z0 := unfroz H2 0; have z1 := unfroz H2 1; have z2 := unfroz H2 2; have z3 := unfroz H2 3; have z4 := unfroz H2 4; have z5 := unfroz H2 5; obtain ⟨w9, hw9, q9, H29⟩ := set6all H2 (.string s) (.int .i64 3) (.int .i64 m') (.int .u64 s') (.slice none 0 0) (.string tg); (have HF := Lib.hid (And.intro (grown_own gr q9 (fun i h => by injection h with h; omega)) (And.intro (PB.grown HR q9 (fun h => hq2 (by injection h with h; exact h.symm))) (And.intro q9 (And.intro H29 (HNn.blk q9 H2 (by decide))))))); (have H2t := Lib.hid H2); clear gr HR q9 H29 H2 H3 HNn))
            refine bodyPost_ret (results_row_tmp rfl _ _ g2 45 _ (0, 0) _ rfl HF.out.2.2.2.1 Tryd.underlying45 rfl (by kernel_rfl)) rfl ?_
            exact ⟨HF.out.1, .inr ⟨⟨s, 3, m', s', [], tg⟩, ns.take kk ++ [nm], (j7 + tb.length), _, _, some ⟨g12, 0, none⟩, c12, (by rw [HP.out, E7.out]; dsimp only; rw [Int.toNat_natCast, E8.out]; dsimp only; rw [HTG.out, HTB.out]; rfl), (by rw [HLN.out]; rfl), (OwnB.nil _ _), (by rw [HLN.out]; exact HF.out.2.2.2.2), HF.out.2.1, hj8⟩⟩
          · have d9 : (t' == 3) = false := by simpa using h3
            have hP := HXE.out.trans (leafE_dir HBD.out HNM.out HPN.out h1 h3)
            have HP := Lib.hid hP
            have hjl9 := hjl
            clear hP h1 h3 t1
            obtain ⟨y0, y1, y2, y3, y4, y5⟩ := blk6 H3; obtain ⟨i0, i1, i2, i3, i4, i5⟩ := blk6 H2; have z0 := unfroz H2 0; have z1 := unfroz H2 1; have z2 := unfroz H2 2; have z3 := unfroz H2 3; have z4 := unfroz H2 4; have z5 := unfroz H2 5; obtain ⟨w9, hw9, q9, H29⟩ := set6all H2 (.string s) (.int .i64 t') (.int .i64 m') (.int .u64 s') (.slice none 0 0) (.string ⟨#[]⟩); (have HF := Lib.hid (And.intro (grown_own gr q9 (fun i h => by injection h with h; omega)) (And.intro (PB.grown HR q9 (fun h => hq2 (by injection h with h; exact h.symm))) (And.intro q9 (And.intro H29 (HNn.blk q9 H2 (by decide))))))); (have H2t := Lib.hid H2); clear gr HR q9 H29 H2 H3 HNn
            go_wp2_with fail
            refine bodyPost_ret (results_row_tmp rfl _ _ g2 45 _ (0, 0) _ rfl HF.out.2.2.2.1 Tryd.underlying45 rfl (by kernel_rfl)) rfl ?_
            exact ⟨HF.out.1, .inr ⟨⟨s, t', m', s', [], ⟨#[]⟩⟩, ns.take kk ++ [nm], jj, _, _, some ⟨g12, 0, none⟩, c12, HP.out, (by rw [HLN.out]; rfl), (OwnB.nil _ _), (by rw [HLN.out]; exact HF.out.2.2.2.2), HF.out.2.1, hjl9⟩⟩
end Go.Proofs.YtlnaeppbhjmocaaDoor
set_option linter.unusedSimpArgs false
set_option linter.unusedVariables false
namespace Go.Proofs.YtlnaeppbhjmocaaDoor
open Go.RowKit Go.Proofs Go.Proofs.YtlnaeppbhjmocaaDoorW.PrintWords Go.Proofs.YtlnaeppbhjmocaaDoorW.PrintMore

theorem treeX_err2 {gt : ByteArray → ByteArray → Bool} {L : List Int} {dry : Bool} {f : Nat} {acc : List Lf} {ns : List ByteArray} {dir : Bool} {o : Er} {e : Int} (h : o = .error e) : (treeX gt L dry f acc ns dir o).2 = .error e := by
  subst h; rw [treeX_error]
def TreeOut (X : Int → Prop) (B : Nat) (g : Nat) (A : Option Addr) (c : Nat) (L : List Int) (P : List Lf × Er) (e : Ending) (w' : World) : Prop :=
  (∃ x, X x ∧ e = gaveUp x) ∨ ∃ v j, e = .returned v ∧ TreeAt w' B v P.1 ∧ (takeX L 1 P.2).2 = .ok j ∧ PB w' g A c L j ∧ j ≤ L.length

set_option maxHeartbeats 25600000 in
set_option maxRecDepth 100000 in
theorem ptree_any (X : Int → Prop) (g gb ob c : Nat) (L : List Int) (i : Nat) (w : World) (hw : Ok w) (H : PB w g (some ⟨gb, ob, none⟩) c L i) (hi : i ≤ L.length) (hA : BytesAt w (some ⟨gb, ob, none⟩) L) (hgb : gb ≠ g) (hb : bytesOk L) (hc : L.length ≤ c) (hL : L.length ≤ 1073741824) (hg : 4 ≤ g)
    (hX : ∀ e, (takeX L 1 (treeR L (numX L 2 0 4095 (.ok i)) (numX L 8 0 18446744073709551615 (numX L 2 0 4095 (.ok i)).2)).2).2 = .error e → X e) :
    Calls Tryd.prog 36 #[.pointer (some ⟨g, 0, none⟩)] w fun e w' => w.grownBy w' (some g) ∧ TreeOut X w.heap.size g (some ⟨gb, ob, none⟩) c L (treeR L (numX L 2 0 4095 (.ok i)) (numX L 8 0 18446744073709551615 (numX L 2 0 4095 (.ok i)).2)) e w' := by
  have hgS : ∀ a, ((some ⟨gb, ob, none⟩) : Option Addr) = some a → some a.block ≠ some g := fun a e k => by injection e with e; subst e; injection k with k; exact hgb k
  have hgw : g < w.heap.size := (Array.getElem?_eq_some_iff.mp H).1
  obtain ⟨M, hM⟩ : ∃ p, numX L 2 0 4095 (.ok i) = p := ⟨_, rfl⟩
  rw [hM] at hX ⊢
  obtain ⟨S, hS⟩ : ∃ p, numX L 8 0 18446744073709551615 M.2 = p := ⟨_, rfl⟩
  rw [hS] at hX ⊢
  obtain ⟨PP, hPP⟩ : ∃ p, treeR L M S = p := ⟨_, rfl⟩
  rw [hPP] at hX ⊢
  have hNu := Lib.hid (fun (W : World) (gr : w.grownBy W (some g)) i HR hi s lo hi' h1 hx => num_or X g gb ob c L i s lo hi' W (hw.grown hg gr) HR hi (hA.grown gr hgS) hgb hb h1 hc hL hg hx)
  have hTk := Lib.hid (fun (W : World) (gr : w.grownBy W (some g)) i HR hi k h1 hx => take_or X g gb ob c L i k W (hw.grown hg gr) HR hi (hA.grown gr hgS) hgb h1 hc hL hg hx)
  have hLf := Lib.hid (fun (W : World) (gr : w.grownBy W (some g)) i HR hi ns A cn dir HN hns hd hne hx => pleaf_any X g gb ob c L i W (hw.grown hg gr) HR hi (hA.grown gr hgS) hgb hb hc hL hg ns A cn w.heap.size dir HN hgw gr.size hns hd hne hx)
  have hok := Lib.hid (fun (W : World) (gr : w.grownBy W (some g)) => hw.grown hg gr)
  have hAg := Lib.hid (fun (W : World) (gr : w.grownBy W (some g)) => hA.grown gr hgS)
  have gr := grown_refl w (some g)
  have HR := H
  have HX := Lib.hid hX
  have HBy := Lib.hid hb
  have HM := Lib.hid hM
  have HS := Lib.hid hS
  have HPP := Lib.hid hPP
  have hX1 : Hid (∀ e, (numX L 2 0 4095 (.ok i)).2 = .error e → X e) := Lib.hid (fun e h => HX.out e (by
    rw [← HPP.out]; refine takeX_err ?_; unfold treeR; refine treeX_err2 ?_
    rw [← HS.out]; refine numX_err ?_; rw [← HM.out]; exact h))
  have hX2 : Hid (∀ e, (numX L 8 0 18446744073709551615 M.2).2 = .error e → X e) := Lib.hid (fun e h => HX.out e (by
    rw [← HPP.out]; refine takeX_err ?_; unfold treeR; refine treeX_err2 ?_
    rw [← HS.out]; exact h))
  obtain ⟨iL, hiL, hzL, hsL, hyL⟩ := info_leaf
  have HG := Lib.hid hiL
  have tok1 : True := trivial
  clear hX hb hM hS hPP H hiL
  go_enter Tryd.func36, Tryd.ntmps36
  go_upto_block 0 with (first
    | (go_at_call 56; have _t := tok1; go_loud (have ct := hNu.out _ gr i HR hi 2 0 4095 (by omega) hX1.out); refine ct.mono ?_; clear ct; rintro e wa ⟨q, ⟨cc, hcc, he⟩ | ⟨m, j1, e1, rfl, HRa, hj1, hm0, hm1, _⟩⟩; (· (unfold gaveUp at he; subst he; exact ⟨rfl, (grown_trans gr q), .inl ⟨cc, hcc, rfl⟩⟩)); replace gr := grown_trans gr q; clear q HR; have HR := HRa; clear HRa; have E1 := Lib.hid e1; clear e1 tok1; have wm : IntKind.i64.wrap m = m := IntWalk.i64_in _ ⟨by omega, by omega⟩; have tok2 : True := trivial; go_loud (obtain ⟨w2, g2, hg2, hw2, f2, hz2, H2⟩ := boxedN (hok.out _ gr) #[.string ⟨#[47]⟩, .int .i64 2, .int .i64 m, .int .u64 0, .slice none 0 0, .string ⟨#[]⟩] 45; have l2 : w.heap.size ≤ g2 := (by have := gr.size; omega); have hq2 : g2 ≠ g := (by omega); replace HR := HR.fr f2; replace gr := grown_fr gr f2; clear f2; obtain ⟨i0, i1, i2, i3, i4, i5⟩ := blk6 H2; have z0 := unfroz H2 0; have z1 := unfroz H2 1; have z2 := unfroz H2 2; have z3 := unfroz H2 3; have z4 := unfroz H2 4; have z5 := unfroz H2 5; have j0 := idemC H2 i0; have j1 := idemC H2 i1; have j2 := idemC H2 i2; have j3 := idemC H2 i3; have j4 := idemC H2 i4; have j5 := idemC H2 i5))
    | (go_at_call 56; have _t := tok2; clear i0 i1 i2 i3 i4 i5 z0 z1 z2 z3 z4 z5 j0 j1 j2 j3 j4 j5; go_loud (have ct := hNu.out _ gr j1 HR hj1 8 0 18446744073709551615 (by omega) (fun e h => hX2.out e (by rw [← HM.out, E1.out]; exact h))); refine ct.mono ?_; clear ct; rintro e wa2 ⟨q, ⟨cc, hcc, he⟩ | ⟨s, j2, e1, rfl, HRa, hj2, hs0, hs1, _⟩⟩; (· (unfold gaveUp at he; subst he; exact ⟨rfl, (grown_trans gr q), .inl ⟨cc, hcc, rfl⟩⟩)); replace gr := grown_trans gr q; replace H2 := grown_blk' q H2 (fun k => hq2 (by injection k)); clear q HR; have HR := HRa; clear HRa; have E2 := Lib.hid e1; clear e1 tok2; have y3 := unfroz H2 3; have y3c := (blk6 H2).2.2.2.1; go_loud (obtain ⟨wb2, hwb2, HMM, q⟩ := set_grown H2 3 (.int .u64 s); simp only [List.setIfInBounds_toArray, List.set_cons_zero, List.set_cons_succ] at HMM; replace gr := grown_own gr q (fun i h => by injection h with h; omega); replace HR := PB.grown HR q (fun h => hq2 (by injection h with h; exact h.symm)); clear q H2; have H2 := HMM; clear HMM; obtain ⟨i0, i1, i2, i3, i4, i5⟩ := blk6 H2; obtain ⟨w5, g5, hg5, hw5, f5, hz5, H5⟩ := boxedN (hok.out _ gr) #[.string ⟨#[47]⟩, .int .i64 2, .int .i64 m, .int .u64 s, .slice none 0 0, .string ⟨#[]⟩] 45; have l5' : w.heap.size ≤ g5 := (by have := gr.size; omega); replace gr := grown_fr gr f5; replace HR := HR.fr f5)))
  have HO0 : Hid (w5.ownsRow w.heap.size 45 6 (.slice (some ⟨g5, 0, none⟩) 1 1) 1 (lflat [(rootLf m s, .slice none 0 0)])) := Lib.hid (own_block H5 l5' (by unfold maxLen; omega) rfl)
  have HLO0 : Hid (LO w5 w.heap.size [(rootLf m s, .slice none 0 0)]) := Lib.hid (fun p hp => by rw [List.mem_singleton.1 hp]; exact OwnB.nil _ _)
  have HT0 : Hid (treeX gtB L false (L.length + 1) [rootLf m s] [] true (.ok j2) = PP) := Lib.hid (by
    have hM := HM.out.symm.trans E1.out
    subst hM
    have hS := HS.out.symm.trans E2.out
    subst hS
    exact HPP.out)
  have HF0 := Lib.hid gr
  have HR0 := Lib.hid HR
  clear i0 i1 i2 i3 i4 i5 y3 y3c hwb2 f5 H5 H2 gr HR hw2 hw5 hX1 hX2 HPP
  go_cut [4] (fun v4 wc => ∃ (a : Option Addr) (tv : List (Lf × Value)) (d j : Nat), v4 = .slice a tv.length d ∧ Hid (PP = (tv.map Prod.fst, .ok j)) ∧ j ≤ L.length ∧ Hid (w.grownBy wc (some g)) ∧ Hid (PB wc g (some ⟨gb, ob, none⟩) c L j) ∧ Hid (wc.ownsRow w.heap.size 45 6 (.slice a tv.length d) tv.length (lflat tv)) ∧ Hid (LO wc w.heap.size tv))
  case first =>
    go_wp2_with fail
    go_loopg [4, 5] (L.length + 1) (fun k v4 v5 wc => ∃ (tv : List (Lf × Value)) (p : Lf × Value) (gt d : Nat) (ns : List ByteArray) (na : Option Addr) (nd j : Nat), v4 = .slice (some ⟨gt, 0, none⟩) (tv.length + 1) d ∧ v5 = .slice na ns.length nd ∧ Hid (treeX gtB L false k ((tv ++ [p]).map Prod.fst) ns (decide (p.1.ty = 2)) (.ok j) = PP) ∧
      L.length < k + j ∧ tv.length ≤ j ∧ j ≤ L.length ∧ Hid (Good ns p.1.ty) ∧ Hid (w.grownBy wc (some g)) ∧ Hid (PB wc g (some ⟨gb, ob, none⟩) c L j) ∧ Hid (wc.ownsRow w.heap.size 45 6 (.slice (some ⟨gt, 0, none⟩) (tv.length + 1) d) (tv.length + 1) (lflat (tv ++ [p]))) ∧ Hid (LO wc w.heap.size (tv ++ [p])) ∧ Hid (NO wc w.heap.size (.slice na ns.length nd) ns))
    case atStart =>
      exact ⟨[], (rootLf m s, .slice none 0 0), g5, 1, [], none, 0, j2, rfl, rfl, (Lib.hid (by simpa [rootLf] using HT0.out)), by omega, Nat.zero_le _, hj2, Lib.hid good_root, HF0, HR0, HO0, HLO0, Lib.hid (NO.nil _ _)⟩
    case round =>
      clear HF0 HR0 HO0 HLO0 HT0
      obtain ⟨tv, p, gt, d, ns, na, nd, j, rfl, rfl, HT, hkj, htj, hjl, HGo, gr, HR, HO, HLO, HN⟩ := hrel
      obtain ⟨c0, c1⟩ := blk2 HR.out
      have fq := Fr.refl (hok.out _ gr.out)
      have hEnd : ¬ (j < L.length ∧ L.getD j 0 ≠ 255) → PP = ((tv ++ [p]).map Prod.fst, .ok j) := fun h => by
        rw [← HT.out]; exact treeX_stop _ _ _ _ _ _ _ _ h
      have HEND := Lib.hid hEnd
      clear hEnd
      by_cases hlt : j < L.length
      · have d3 : decide ((j : Int) < (L.length : Int)) = true := decide_eq_true (by omega)
        have hcell := bytes_cell (hAg.out _ gr.out) j hlt
        have d4 : (0 : Int) ≤ (j : Int) := by omega
        have d5 : (j : Int) < (L.length : Int) := by omega
        have HLT := Lib.hid hlt
        obtain ⟨b, hbb⟩ : ∃ b, L.getD j 0 = b := ⟨_, rfl⟩
        rw [hbb] at hcell
        have HBB := Lib.hid hbb
        clear hbb hlt
        by_cases h255 : b = 255
        · have d6 : (b != 255) = false := by simpa using h255
          have HS5 : Hid (¬ (j < L.length ∧ L.getD j 0 ≠ 255)) := Lib.hid (fun h => h.2 (by rw [HBB.out]; exact h255))
          clear h255
          go_wp2_with fail
          have r_c0 := cell_regrown c0
          have r_c1 := cell_regrown c1
          have r_hcell := cell_regrown hcell
          refine wp_region_quiet_below (by kernel_rfl) (by kernel_rfl) ?_
          repeat (go_big_quiet_step (fail))
          refine wpQuiet_nil ?_
          intro wq hwq
          have q := Fr.regrown fq.ok hwq
          clear hwq r_c0 r_c1 r_hcell
          replace c0 := q.cell c0
          replace c1 := q.cell c1
          replace hcell := q.cell hcell
          replace fq := fq.trans q
          clear q
          go_wp2_with fail
          go_meet
          exact ⟨some ⟨gt, 0, none⟩, tv ++ [p], d, j, by simp, Lib.hid (HEND.out HS5.out), hjl, Lib.hid (grown_fr gr.out fq), Lib.hid (HR.out.fr fq), Lib.hid (by rw [show (tv ++ [p]).length = tv.length + 1 by simp]; exact own_fr HO.out fq), Lib.hid (HLO.out.fr fq)⟩
        · have d6 : (b != 255) = true := by simpa using h255
          have HPk : Hid (j < L.length ∧ L.getD j 0 ≠ 255) := Lib.hid ⟨HLT.out, by rw [HBB.out]; exact h255⟩
          clear h255
          go_wp2_with fail
          have r_c0 := cell_regrown c0
          have r_c1 := cell_regrown c1
          have r_hcell := cell_regrown hcell
          refine wp_region_quiet_below (by kernel_rfl) (by kernel_rfl) ?_
          repeat (go_big_quiet_step (fail))
          refine wpQuiet_nil ?_
          intro wq hwq
          have q := Fr.regrown fq.ok hwq
          clear hwq r_c0 r_c1 r_hcell
          replace c0 := q.cell c0
          replace c1 := q.cell c1
          replace hcell := q.cell hcell
          replace fq := fq.trans q
          clear q
          obtain ⟨⟨pp, pty, pm, ps, pd, pt⟩, pv⟩ := p
          dsimp only at HGo HT
          have gr1 := grown_fr gr.out fq
          have HR1 := HR.out.fr fq
          have HO1 := own_fr HO.out fq
          have HLO1 := HLO.out.fr fq
          have HN1 := HN.out.fr fq
          clear c0 c1 hcell fq gr HR HO HLO HN
          have hgd := HGo.out
          have hX' : Hid (∀ e, (leafX gtB L false ns (pty == 2) (.ok j)).2 = .error e → X e) := Lib.hid (fun e h => HX.out e (by
            refine takeX_err ?_
            rw [← HT.out]
            cases gk with
            | zero => omega
            | succ k =>
              simp only [treeX]
              rw [if_pos HPk.out]
              exact treeX_err2 h))
          have hL0 := HO1
          rw [lflat_snoc] at hL0
          have y1 := own_at (lflat_length tv) hL0 1 _ rfl
          dsimp only at y1
          have htv : tv.length ≤ 1073741824 := by omega
          have hcd : tv.length + 1 ≤ d := own_cap HO1
          have hlast : (tv.length : Int) < ((tv.length + 1 : Nat) : Int) := by omega
          have hlf := hLf.out _ gr1 j HR1 hjl ns na nd (pty == 2) HN1 hgd.names hgd.deep hgd.dir hX'.out
          have HLF := Lib.hid hlf
          have HRb := Lib.hid HR1
          have HO1 := Lib.hid HO1
          have HLO1 := Lib.hid HLO1
          have GR1 := Lib.hid gr1
          clear hlf hgd hL0 HN1 HR1 gr1
          go_wp2_with (first
            | (go_at_call 57; go_loud (refine HLF.out.mono ?_); rintro e wl ⟨q, ⟨cc, hcc, he⟩ | ⟨lf, ns', j', va, vc, na', nd', hP, rfl, HD, HNn, HRn, hj'⟩⟩; (· (unfold gaveUp at he; subst he; exact ⟨rfl, (grown_trans GR1.out q), .inl ⟨cc, hcc, rfl⟩⟩)); clear y1; go_loud (have O1 := own_grown HO1.out q HRb.out (by decide); have LO1 := HLO1.out.cells q HRb.out (by decide); have gr2 := grown_trans GR1.out q; have HD1 := HD.low GR1.out.size; have HN2 := HNn.low GR1.out.size); have HPL := Lib.hid hP; clear hP; go_loud (obtain ⟨w3, g3, hg3, hw3, f3, hz3, H3⟩ := boxedN (hok.out _ gr2) #[.string lf.path, .int .i64 lf.ty, .int .i64 lf.mode, .int .u64 lf.stamp, .slice va lf.data.length vc, .string lf.tgt] 45; obtain ⟨y0, y1, y2, y3, y4, y5⟩ := blk6 H3; obtain ⟨w4, g4, hg4, hw4, f4, hz4, H4⟩ := boxedN f3.ok #[.string lf.path, .int .i64 lf.ty, .int .i64 lf.mode, .int .u64 lf.stamp, .slice va lf.data.length vc, .string lf.tgt] 45; have f34 := f3.trans f4; have O2 := own_fr O1 f34; have LO2 := LO1.fr f34; have HR2 := HRn.fr f34; have gr3 := grown_fr gr2 f34; have HN3 := HN2.fr f34); go_loud (obtain ⟨v5, w5', hap, O5, q5, hob⟩ := append_src Tryd.underlying26 HG.out hzL hsL hyL rfl (by decide) 26 O2 (some ⟨g4, 0, none⟩) 1 1 _ (Src.lit H4 1 1) (by simp) (by simp [Value.oneCell']) (by unfold maxLen; omega) (by omega) gr3.size); go_loud (obtain ⟨ga, d2', hv5, _, _⟩ := World.ownsRow.form O5 (by omega); subst hv5); go_loud (have HF := Lib.hid (And.intro (grown_own gr3 q5 (fun k hk => (World.ownsRow.lt O2 k hk).1)) (And.intro (HR2.grown q5 (pb_ne HR2 O2 (by decide))) (And.intro O5 (And.intro ((LO2.snoc (p := (lf, .slice va lf.data.length vc)) (HD1.fr f34)).own q5 O2 (by decide)) (HN3.own q5 O2 (by decide))))))); clear O1 LO1 HD1 f3 f4 f34 O2 LO2 HR2 gr2 gr3 O5 q5 hob HD HRn q H3 H4 HNn HN2 HN3)
            | (at_builtin; refine wpList_append_run rfl _ _ 26 26 rfl (by simp [Act.eval]) (by simp [Act.eval]) hap ?_))
          cases gk with
          | zero => exact absurd hkj (by omega)
          | succ k =>
            have hpr := leafX_on (by rw [HPL.out])
            obtain ⟨i', e1, a1, b1⟩ := hpr
            injection e1 with e1
            subst e1
            have hG := leafX_Good HBy.out HGo.out HPL.out
            have HGG := Lib.hid hG.2
            have hTT : treeX gtB L false k (((tv ++ [((⟨pp, pty, pm, ps, pd, pt⟩ : Lf), pv)]) ++ [(lf, Value.slice va lf.data.length vc)]).map Prod.fst) ns' (decide (lf.ty = 2)) (.ok j') = PP := by
              have h := HT.out
              simp only [treeX] at h
              rw [if_pos HPk.out] at h
              have hl : leafX gtB L false ns (decide (pty = 2)) (.ok j) = ((lf, ns'), .ok j') := HPL.out
              rw [hl] at h
              simpa using h
            have HTT := Lib.hid hTT
            clear hTT hG
            go_roundg k
            case measure => omega
            case rel =>
              refine ⟨tv ++ [(⟨pp, pty, pm, ps, pd, pt⟩, pv)], (lf, .slice va lf.data.length vc), ga, d2', ns', na', nd', j', by simp, rfl, HTT, by omega, by simp; omega, b1, HGG, Lib.hid HF.out.1, Lib.hid HF.out.2.1, Lib.hid ?_, Lib.hid HF.out.2.2.2.1, Lib.hid HF.out.2.2.2.2⟩
              have h := HF.out.2.2.1
              rw [lflat_snoc]
              simpa [lcell] using h
      · have d3 : decide ((j : Int) < (L.length : Int)) = false := decide_eq_false (by omega)
        have d5 : (L.length : Int) ≤ (j : Int) := by omega
        have d3n : decide (j < L.length) = false := decide_eq_false hlt
        have HS5 : Hid (¬ (j < L.length ∧ L.getD j 0 ≠ 255)) := Lib.hid (fun h => hlt h.1)
        clear hlt
        go_wp2_with fail
        have r_c0 := cell_regrown c0
        have r_c1 := cell_regrown c1
        refine wp_region_quiet_below (by kernel_rfl) (by kernel_rfl) ?_
        repeat (go_big_quiet_step (fail))
        refine wpQuiet_nil ?_
        intro wq hwq
        have q := Fr.regrown fq.ok hwq
        clear hwq r_c0 r_c1
        replace c0 := q.cell c0
        replace c1 := q.cell c1
        replace fq := fq.trans q
        clear q
        go_wp2_with fail
        go_meet
        exact ⟨some ⟨gt, 0, none⟩, tv ++ [p], d, j, by simp, Lib.hid (HEND.out HS5.out), hjl, Lib.hid (grown_fr gr.out fq), Lib.hid (HR.out.fr fq), Lib.hid (by rw [show (tv ++ [p]).length = tv.length + 1 by simp]; exact own_fr HO.out fq), Lib.hid (HLO.out.fr fq)⟩
  case rest =>
    obtain ⟨a, tv, d, j, rfl, HPJ, hjl, gr, HR, HO, HLO⟩ := hcut
    replace gr := gr.out
    replace HR := HR.out
    have HRb := Lib.hid HR
    have hXt : Hid (∀ e, (takeX L 1 (.ok j)).2 = .error e → X e) := Lib.hid (fun e h => HX.out e (by rw [HPJ.out]; exact h))
    clear HF0 HR0 HO0 HLO0 HT0
    go_wp2_with (go_at_call 37; go_loud (have ct := hTk.out _ gr j HR hjl 1 (by omega) hXt.out); refine ct.mono ?_; clear ct; rintro e wn7 ⟨q, ⟨cc, hcc, he⟩ | ⟨tb, o7, dn7, e1, rfl, hdn7, hbl7, hBn7, HRa, hj8⟩⟩; (· (unfold gaveUp at he; subst he; exact ⟨rfl, (grown_trans gr q), .inl ⟨cc, hcc, rfl⟩⟩)); have E1 := Lib.hid e1; have HQ := Lib.hid (And.intro q HRa); clear e1 q HRa hBn7)
    go_ret
    exact ⟨grown_trans gr HQ.out.1, .inr ⟨_, j + 1, rfl, ⟨a, tv, d, rfl, by rw [HPJ.out], own_grown HO.out HQ.out.1 HRb.out (by decide), HLO.out.cells HQ.out.1 HRb.out (by decide)⟩, by rw [HPJ.out]; dsimp only; rw [E1.out], HQ.out.2, hj8⟩⟩
end Go.Proofs.YtlnaeppbhjmocaaDoor
