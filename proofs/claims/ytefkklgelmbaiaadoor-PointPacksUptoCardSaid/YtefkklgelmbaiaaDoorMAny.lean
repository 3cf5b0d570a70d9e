/- strings.ContainsAny(s, "/\x00") at every string s, bytes that are no UTF-8 among them (the shelf has it on ASCII alone). -/
import Derived.Test.YtefkklgelmbaiaaDoorMData
import Derived.Laws.RangeString
import Derived.Laws.Runes
import Derived.Laws.Strings3
import Derived.Lib.DecodeN
import Derived.Lib.IndexAny
import Derived.Lib.IndexBytes
import Derived.Deep.LoopGhost
import Derived.WalkMore
set_option linter.unusedSimpArgs false
set_option linter.unusedVariables false
namespace Go.Proofs.YtefkklgelmbaiaaDoor
open Go.RowKit Go.Proofs

theorem run_next_any {P : Program} (w : World) (s : ByteArray) (pos : Nat) (ty : TypeId) (h : pos < s.size) :
    (Instr.next (.pointer (some ⟨w.heap.size, 0, none⟩)) true ty).run P (w.iter s pos) =
      .ok (.tuple #[.bool true, .int .i64 pos, .int .i32 ((Utf8.decode s pos).1 : Nat)]) (w.iter s (pos + (Utf8.decode s pos).2)) := by
  simp only [Instr.next, getObj, setObj, Sem.run_bind, Sem.run, World.iter_heap, Result.andThen, h, if_true, World.iter_set]
  simp [goInt, Sem.run, World.iter_heap, World.iter_set]
theorem getbang (s : ByteArray) (i : Nat) (h : i < s.size) : s.get! i = s[i]'h := by
  simp [ByteArray.get!, getElem!_pos, h]
  rfl
/-- what a byte from 128 on begins -/
theorem decode_high (s : ByteArray) (i : Nat) (h : i < s.size) (hb : 128 ≤ (s[i]'h).toNat) :
    ∃ r n : Nat, Utf8.decode s i = (r, n) ∧ 128 ≤ r ∧ Utf8.valid r = true ∧ 1 ≤ n ∧ i + n ≤ s.size ∧ ∀ j (hj : j < s.size), i ≤ j → j < i + n → 128 ≤ (s[j]'hj).toNat := by
  have hd := Lib.decode_at s i
  have e0 := getbang s i h
  have v : ∀ c : Nat, (c < 55296 ∨ (57344 ≤ c ∧ c ≤ 1114111)) → Utf8.valid (c : Int) = true := fun c hc => by
    rw [validRune_eq]; unfold validRune; rw [decide_eq_true]; omega
  have one : ∀ j (hj : j < s.size), i ≤ j → j < i + 1 → 128 ≤ (s[j]'hj).toNat := fun j hj h1 h2 => by
    obtain rfl : j = i := by omega
    exact hb
  have nxt : ∀ k, i + k < s.size → (s.get! (i + k)).toNat / 64 = 2 → ∀ (hj : i + k < s.size), 128 ≤ (s[i + k]'hj).toNat := fun k hk h2 hj => by
    rw [getbang s (i + k) hk] at h2; omega
  rw [e0] at hd
  unfold Lib.decodeN at hd
  rw [if_neg (by omega)] at hd
  split at hd
  · rename_i c
    split at hd
    · refine ⟨_, _, hd, by omega, v _ (by omega), by omega, by omega, fun j hj h1 h2 => ?_⟩
      by_cases e : j = i
      · subst e; exact hb
      · obtain rfl : j = i + 1 := by omega
        exact nxt 1 (by omega) c.2.2 hj
    · exact ⟨_, _, hd, by omega, v _ (by omega), by omega, by omega, one⟩
  split at hd
  · rename_i c
    split at hd
    · refine ⟨_, _, hd, by omega, v _ (by omega), by omega, by omega, fun j hj h1 h2 => ?_⟩
      have hj3 : j = i ∨ j = i + 1 ∨ j = i + 2 := by omega
      rcases hj3 with rfl | rfl | rfl
      · exact hb
      · exact nxt 1 (by omega) c.2.1.2 hj
      · exact nxt 2 (by omega) c.2.2.2 hj
    · exact ⟨_, _, hd, by omega, v _ (by omega), by omega, by omega, one⟩
  split at hd
  · rename_i c
    split at hd
    · refine ⟨_, _, hd, by omega, v _ (by omega), by omega, by omega, fun j hj h1 h2 => ?_⟩
      have hj3 : j = i ∨ j = i + 1 ∨ j = i + 2 ∨ j = i + 3 := by omega
      rcases hj3 with rfl | rfl | rfl | rfl
      · exact hb
      · exact nxt 1 (by omega) c.2.1.2 hj
      · exact nxt 2 (by omega) c.2.2.1.2 hj
      · exact nxt 3 (by omega) c.2.2.2.2 hj
    · exact ⟨_, _, hd, by omega, v _ (by omega), by omega, by omega, one⟩
  · exact ⟨_, _, hd, by omega, v _ (by omega), by omega, by omega, one⟩

def sl0 : ByteArray := ⟨#[47, 0]⟩
theorem fr_iter {w0 w : World} (f : Fr w0 w) (s : ByteArray) (p : Nat) : Fr w0 (w.iter s p) := f.alloc _

set_option maxHeartbeats 1600000 in
set_option maxRecDepth 1000000 in
theorem indexRune_bad (w : World) (hw : Ok w) : Calls Tryd.prog 67 #[.string ⟨#[47, 0]⟩, .int .i32 65533] w fun e w' => e = .returned (.int .i64 (-1)) ∧ Fr w w' := by
  have f := Fr.refl hw
  have n0 := fun ty => run_next_ascii (P := Tryd.prog) w sl0 0 ty (by decide) (by decide)
  have n1 := fun ty => run_next_ascii (P := Tryd.prog) w sl0 1 ty (by decide) (by decide)
  have n2 := fun ty => run_next_end (P := Tryd.prog) w sl0 2 ty (by decide)
  have b0 : ((sl0[0]'(by decide)).toNat : Int) = 47 := rfl
  have b1 : ((sl0[1]'(by decide)).toNat : Int) = 0 := rfl
  rw [b0] at n0
  rw [b1] at n1
  unfold sl0 at *
  clear b0 b1
  go_enter Tryd.func67, Tryd.ntmps67
  go_wp2_with fail
  go_loopg [5, 6] 2 (fun q _ _ W => ∃ i : Nat, Hid (q = 2 - i ∧ i ≤ 2) ∧ W = w.iter ⟨#[47, 0]⟩ i)
  case atStart => exact ⟨0, Lib.hid ⟨rfl, by omega⟩, rfl⟩
  case round =>
    obtain ⟨i, hq, rfl⟩ := hrel
    obtain ⟨rfl, hi⟩ := hq.out
    clear hq
    have h3 : i = 0 ∨ i = 1 ∨ i = 2 := by omega
    clear hi
    rcases h3 with rfl | rfl | rfl
    · go_wp2_with fail
      go_roundg 1
      case measure => omega
      case rel => exact ⟨1, Lib.hid ⟨rfl, by omega⟩, rfl⟩
    · go_wp2_with fail
      go_roundg 0
      case measure => omega
      case rel => exact ⟨2, Lib.hid ⟨rfl, by omega⟩, rfl⟩
    · go_wp2_with fail
      go_ret
      exact ⟨rfl, fr_iter f _ _⟩

theorem ib_none (s : ByteArray) (b : UInt8) (hs : s.data.toList = []) (w : World) (hw : Ok w) : Calls Tryd.prog 75 #[.string s, .int .u8 b.toNat] w fun e w' => e = .returned (.int .i64 (-1)) ∧ Fr w w' :=
  (Tryd.strings_IndexByte s b.toNat w).mono fun _ _ ⟨he, hw'⟩ => ⟨by rw [he, hs]; rfl, by rw [hw']; exact Fr.refl hw⟩
set_option maxHeartbeats 1600000 in
set_option maxRecDepth 1000000 in
theorem indexRune_high (r : Nat) (h128 : 128 ≤ r) (hv : Utf8.valid (r : Int) = true) (w : World) (hw : Ok w) : Calls Tryd.prog 67 #[.string ⟨#[47, 0]⟩, .int .i32 r] w fun e w' => e = .returned (.int .i64 (-1)) ∧ Fr w w' := by
  by_cases hbad : r = 65533
  · subst hbad; exact indexRune_bad w hw
  · have f := Fr.refl hw
    obtain ⟨z2, z4, z5⟩ := encode_facts r hv (by omega)
    have hvr : Lib.validRune (r : Int) = true := by
      have := hv
      rw [validRune_eq] at this
      exact this
    have hmax : r ≤ 1114111 := by
      have := hv
      rw [validRune_eq] at this
      unfold validRune at this
      have := of_decide_eq_true this
      omega
    have hb : ((r : Int) == 65533) = false := by rw [beq_eq_false_iff_ne]; omega
    have h0 : (0 : Int) ≤ (r : Int) := by omega
    have h1 : ¬ ((r : Int) < 128) := by omega
    have hd : decide ((r : Int) < 128) = false := decide_eq_false h1
    clear hbad h1
    obtain ⟨rs, hrs⟩ : ∃ rs, Utf8.encode (r : Int) = rs := ⟨_, rfl⟩
    rw [hrs] at z2 z4 z5
    have Z5 := Lib.hid z5
    clear z5
    have s3 : rs.size = 2 ∨ rs.size = 3 ∨ rs.size = 4 := by omega
    clear z2 z4
    have HV := Lib.hid hv
    clear hv
    rcases s3 with hs | hs | hs
    · have h12 : 1 < rs.size := by omega
      obtain ⟨b, hbx⟩ : ∃ b : UInt8, (rs[1]'h12) = b := ⟨_, rfl⟩
      have hx : 128 ≤ b.toNat := by
        have := Z5.out (by omega)
        rw [← hbx]
        have e : rs.size - 1 = 1 := by omega
        simpa only [e] using this
      have hsz : ((rs.size : Int)) = 2 := by omega
      have hne : ((((⟨#[47, 0]⟩ : ByteArray)[1]'(by decide)).toNat : Int) != (b.toNat : Int)) = true := by
        have : (((⟨#[47, 0]⟩ : ByteArray)[1]'(by decide)).toNat : Int) = 0 := rfl
        rw [this]; simp; omega
      have h12' : (1 : Int) < (rs.size : Int) := by omega
      go_enter Tryd.func67, Tryd.ntmps67
      go_wp2_with (go_at_call 76; refine (Tryd.utf8_ValidRune _ _).mono ?_; rintro e w' ⟨rfl, rfl⟩)
      go_step3
      go_wp2_with fail
      refine wp_loop_rounds 1 ?_
      rw [rounds_succ]
      go_wp2_with fail
      go_step3
      go_wp2_with fail
      refine wp_region_quiet_below (by kernel_rfl) (by kernel_rfl) ?_
      repeat (go_big_quiet_step (fail))
      refine wpQuiet_nil ?_
      intro wq hwq
      have q := Fr.regrown f.ok hwq
      clear hwq
      replace f := f.trans q
      clear q
      go_wp2_with fail
      refine wp_region_quiet_below (by kernel_rfl) (by kernel_rfl) ?_
      repeat (go_big_quiet_step (first | (go_at_call 75; exact qfr (ib_none _ b (by rfl) _ (okR f.ok _ _)))))
      refine wpQuiet_nil ?_
      intro wq hwq
      have q := Fr.regrown f.ok hwq
      clear hwq
      replace f := f.trans q
      clear q
      go_wp2_with fail
      rw [Exit.noGoto_ret]
      go_wp2_with fail
      rw [Exit.noGoto_ret]
      go_ret
      exact ⟨rfl, f⟩
    · go_enter Tryd.func67, Tryd.ntmps67
      go_wp2_with (go_at_call 76; refine (Tryd.utf8_ValidRune _ _).mono ?_; rintro e w' ⟨rfl, rfl⟩)
      go_step3
      go_wp2_with fail
      refine wp_loop_rounds 1 ?_
      rw [rounds_succ]
      go_wp2_with fail
      rw [Exit.noGoto_ret]
      go_ret
      exact ⟨rfl, f⟩
    · go_enter Tryd.func67, Tryd.ntmps67
      go_wp2_with (go_at_call 76; refine (Tryd.utf8_ValidRune _ _).mono ?_; rintro e w' ⟨rfl, rfl⟩)
      go_step3
      go_wp2_with fail
      refine wp_loop_rounds 1 ?_
      rw [rounds_succ]
      go_wp2_with fail
      rw [Exit.noGoto_ret]
      go_ret
      exact ⟨rfl, f⟩

/-- the iterator's next step, wherever the iterator lies -/
def nextW (W : World) (g : Nat) (s : ByteArray) (p : Nat) : World := { W with heap := W.heap.setIfInBounds g (.stringIter s p) }
theorem run_next_at {P : Program} (W : World) (g : Nat) (s : ByteArray) (pos : Nat) (ty : TypeId) (H : W.heap[g]? = some (.stringIter s pos)) (h : pos < s.size) :
    (Instr.next (.pointer (some ⟨g, 0, none⟩)) true ty).run P W = .ok (.tuple #[.bool true, .int .i64 pos, .int .i32 ((Utf8.decode s pos).1 : Nat)]) (nextW W g s (pos + (Utf8.decode s pos).2)) := by
  simp only [Instr.next, getObj, setObj, Sem.run_bind, Sem.run, H, Result.andThen, h, if_true]
  simp [goInt, Sem.run, H, nextW]
theorem run_next_at_end {P : Program} (W : World) (g : Nat) (s : ByteArray) (pos : Nat) (ty : TypeId) (H : W.heap[g]? = some (.stringIter s pos)) (h : ¬ pos < s.size) :
    (Instr.next (.pointer (some ⟨g, 0, none⟩)) true ty).run P W = .ok (.tuple #[.bool false]) W := by
  simp [Instr.next, getObj, Sem.run, H, h]
theorem fr_next {w W : World} {g : Nat} (f : Fr w W) (hw : Ok w) (hg : w.heap.size ≤ g) (s : ByteArray) (p : Nat) : Fr w (nextW W g s p) :=
  Fr.of hw ⟨f.below.os, f.below.tape, f.below.output, by have := f.below.size; simpa [nextW] using this, fun k hk => by
    have h1 := f.below.block k hk
    simp only [nextW]
    rw [Array.getElem?_setIfInBounds_ne (by omega)]; exact h1⟩
theorem next_heap {W : World} {g : Nat} {s : ByteArray} {q : Nat} (H : W.heap[g]? = some (.stringIter s q)) (p : Nat) : (nextW W g s p).heap[g]? = some (.stringIter s p) := by
  have hlt := (Array.getElem?_eq_some_iff.1 H).1
  simp [nextW, hlt]

/-- no byte of s ahead of i is one of the two -/
theorem noneOf_take (s : List UInt8) : Lib.NoAny s [47, 0] s.length ↔ noneOf s = true := by
  unfold noneOf Lib.NoAny
  rw [List.all_eq_true]
  constructor
  · intro h x hx
    obtain ⟨j, hj, rfl⟩ := List.getElem_of_mem hx
    have := h j s[j] hj (List.getElem?_eq_getElem hj)
    simp at this ⊢
    exact ⟨this.2, this.1⟩
  · intro h j b hj hb
    have := h b (List.mem_of_getElem? hb)
    simp at this ⊢
    exact ⟨this.2, this.1⟩

set_option maxHeartbeats 3200000 in
set_option maxRecDepth 1000000 in
theorem indexAny_short (s : ByteArray) (h8 : s.size ≤ 8) (w : World) (hw : Ok w) : Calls Tryd.prog 65 #[.string s, .string ⟨#[47, 0]⟩] w fun e w' => (∃ i : Int, e = .returned (.int .i64 i) ∧ decide (0 ≤ i) = !noneOf s.data.toList) ∧ Fr w w' := by
  have f := Fr.refl hw
  have h8z : decide ((8 : Int) < (s.size : Int)) = false := decide_eq_false (by omega)
  obtain ⟨g, hg⟩ : ∃ g, w.heap.size = g := ⟨_, rfl⟩
  have H0 : (w.iter s 0).heap[g]? = some (.stringIter s 0) := by rw [← hg]; exact World.iter_heap w s 0
  obtain ⟨wi, hwi⟩ : ∃ wi, w.iter s 0 = wi := ⟨_, rfl⟩
  have fi : Fr w wi := by rw [← hwi]; exact fr_iter f s 0
  rw [hwi] at H0
  have hgw : w.heap.size ≤ g := by omega
  go_enter Tryd.func65, Tryd.ntmps65
  go_wp2_with (go_at_call 68; refine (Tryd.strings_shouldUseASCIISet _ _).mono ?_; rintro e w' ⟨rfl, hw'⟩; rw [hw', h8z])
  go_loopg [9, 10] s.size (fun q _ _ W => ∃ i : Nat, Hid (q = s.size - i ∧ i ≤ s.size) ∧ W.heap[g]? = some (.stringIter s i) ∧ Fr w W ∧ Hid (Lib.NoAny s.data.toList [47, 0] i))
  case atStart => exact ⟨0, Lib.hid ⟨rfl, by omega⟩, H0, fi, Lib.hid (Lib.NoAny.zero _ _)⟩
  case round =>
    clear H0 fi
    obtain ⟨i, hq, H, f, HN⟩ := hrel
    obtain ⟨rfl, hi⟩ := hq.out
    clear hq
    by_cases hlt : i < s.size
    · have hnx := fun ty => run_next_at (P := Tryd.prog) wr g s i ty H hlt
      by_cases hx : (s[i]'hlt).toNat < 128
      · rw [decode_ascii s i hlt hx] at hnx
        dsimp only at hnx
        have f5 := fr_next f hw hgw s (i + 1)
        have H5 := next_heap H (i + 1)
        obtain ⟨w5, hw5⟩ : ∃ w5, nextW wr g s (i + 1) = w5 := ⟨_, rfl⟩
        rw [hw5] at f5 H5
        rw [hw5] at hnx
        obtain ⟨c, hc⟩ : ∃ c : UInt8, s[i]'hlt = c := ⟨_, rfl⟩
        rw [hc] at hnx hx
        have hmem : c ∈ s.data.toList := by rw [← hc]; exact Array.getElem_mem_toList (xs := s.data) hlt
        have hget : s.data.toList[i]? = some c := by rw [← hc]; exact Lib.data_getElem? s i hlt
        have hHit : (c = 47 ∨ c = 0) → Hid (noneOf s.data.toList = false) := fun h => Lib.hid (by
          cases hn : noneOf s.data.toList with
          | false => rfl
          | true =>
            unfold noneOf at hn
            have := List.all_eq_true.1 hn c hmem
            rcases h with rfl | rfl <;> simp at this)
        have hMiss : ¬ (c = 47 ∨ c = 0) → Hid (Lib.NoAny s.data.toList [47, 0] (i + 1)) := fun h => Lib.hid (HN.out.succ hget (by simp; exact not_or.1 h))
        have e47 : Lib.indexByte [47, 0] 47 = 0 := by decide
        have e0 : Lib.indexByte [47, 0] 0 = 1 := by decide
        have eN : ¬ (c = 47 ∨ c = 0) → Lib.indexByte [47, 0] c = -1 := fun h => by
          have h1 : (47 == c) = false := by rw [beq_eq_false_iff_ne]; exact fun e => h (.inl e.symm)
          have h2 : (0 == c) = false := by rw [beq_eq_false_iff_ne]; exact fun e => h (.inr e.symm)
          simp [Lib.indexByte, h1, h2]
        have CR : ∀ v, Lib.indexByte [47, 0] c = v → ∀ w : World, Calls Tryd.prog 67 #[.string ⟨#[47, 0]⟩, .int .i32 (c.toNat : Nat)] w fun e w' => e = .returned (.int .i64 v) ∧ w = w' := fun v hv w =>
          (Tryd.strings_IndexRune_ascii ⟨#[47, 0]⟩ c.toNat w (by omega) (by omega)).mono fun e w' ⟨he, hw'⟩ => ⟨by rw [he, ← hv]; simp, hw'.symm⟩
        clear hmem hget hc H f
        by_cases hcc : c = 47 ∨ c = 0
        · obtain ⟨v, hv, hv0⟩ : ∃ v : Int, Lib.indexByte [47, 0] c = v ∧ 0 ≤ v := by
            rcases hcc with rfl | rfl
            · exact ⟨0, e47, by omega⟩
            · exact ⟨1, e0, by omega⟩
          have CV := Lib.hid (CR v hv)
          have HZ := hHit hcc
          clear hHit hMiss e47 e0 eN CR hcc hv HN
          go_wp2_with (go_at_call 67; refine (CV.out _).mono ?_; rintro e wx ⟨rfl, rfl⟩)
          go_ret
          exact ⟨⟨i, rfl, by rw [HZ.out]; exact decide_eq_true (by omega)⟩, f5⟩
        · have CV := Lib.hid (CR (-1) (eN hcc))
          have HM := hMiss hcc
          clear hHit hMiss e47 e0 eN CR hcc HN
          go_wp2_with (go_at_call 67; refine (CV.out _).mono ?_; rintro e wx ⟨rfl, rfl⟩)
          go_roundg (s.size - (i + 1))
          case measure => omega
          case rel => exact ⟨i + 1, Lib.hid ⟨rfl, by omega⟩, H5, f5, HM⟩
      · obtain ⟨r, n, hdec, hr, hv, hn1, hin, hall⟩ := decode_high s i hlt (by omega)
        rw [hdec] at hnx
        dsimp only at hnx
        have f5 := fr_next f hw hgw s (i + n)
        have H5 := next_heap H (i + n)
        obtain ⟨w5, hw5⟩ : ∃ w5, nextW wr g s (i + n) = w5 := ⟨_, rfl⟩
        rw [hw5] at f5 H5
        rw [hw5] at hnx
        have HM : Hid (Lib.NoAny s.data.toList [47, 0] (i + n)) := Lib.hid (fun j b hj hb => by
          by_cases hji : j < i
          · exact HN.out j b hji hb
          · have hjs : j < s.size := by omega
            have h1 := hall j hjs (by omega) hj
            have h2 : s.data.toList[j]? = some (s[j]'hjs) := Lib.data_getElem? s j hjs
            rw [h2] at hb
            injection hb with hb
            rw [hb] at h1
            simp
            constructor <;> (rintro rfl; simp at h1))
        have CV := Lib.hid (indexRune_high r hr hv)
        clear hall HN H f hx hdec
        go_wp2_with (go_at_call 67; refine (CV.out _ f5.ok).mono ?_; rintro e wx ⟨rfl, q⟩; replace H5 := q.heap H5; replace f5 := f5.trans q; clear q)
        go_roundg (s.size - (i + n))
        case measure => omega
        case rel => exact ⟨i + n, Lib.hid ⟨rfl, by omega⟩, H5, f5, HM⟩
    · obtain rfl : i = s.size := by omega
      have hnx := fun ty => run_next_at_end (P := Tryd.prog) wr g s s.size ty H (by omega)
      have HZ : Hid (noneOf s.data.toList = true) := Lib.hid ((noneOf_take _).1 (by have := HN.out; rwa [show s.data.toList.length = s.size from Array.length_toList]))
      clear HN
      go_wp2_with fail
      go_ret
      exact ⟨⟨-1, rfl, by rw [HZ.out]; rfl⟩, f⟩
end Go.Proofs.YtefkklgelmbaiaaDoor
