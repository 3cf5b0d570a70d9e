/- good (the program): which states may be packed. -/
import Derived.Test.YtefkklgelmbaiaaDoorZ1
import Derived.Maps.AppendAt
set_option linter.unusedSimpArgs false
set_option linter.unusedVariables false
namespace Go.Proofs.YtefkklgelmbaiaaDoor
open Go.RowKit Go.Proofs

theorem indexAny_noneOf : ∀ l : List UInt8, decide (0 ≤ Lib.indexAny l [47, 0]) = !noneOf l
  | [] => rfl
  | b :: l => by
    have ih := indexAny_noneOf l
    have hge := Lib.indexAny_ge [47, 0] l
    unfold Lib.indexAny noneOf
    rw [List.all_cons]
    by_cases hb : b = 47 ∨ b = 0
    · have h1 : ([47, 0] : List UInt8).contains b = true := by rcases hb with rfl | rfl <;> rfl
      rw [h1, if_pos rfl]
      rcases hb with rfl | rfl <;> simp
    · have h1 : ([47, 0] : List UInt8).contains b = false := by simp; exact not_or.1 hb
      have h2 : (b != 0 && b != 47) = true := by simp; exact ⟨fun e => hb (.inr e), fun e => hb (.inl e)⟩
      rw [h1, if_neg (by simp), h2, Bool.true_and]
      unfold noneOf at ih
      rw [← ih]
      by_cases hm : Lib.indexAny l [47, 0] = -1
      · rw [hm]; rfl
      · rw [if_neg (by simpa using hm), decide_eq_true (by omega), decide_eq_true (by omega)]

theorem zero256 (w : World) : (zeroValue 118).run Tryd.prog w = .ok (.agg (Array.replicate 256 (.bool false))) w := by kernel_rfl
theorem indexAny_any (s : ByteArray) (hs : s.size ≤ 1073741824) (w : World) (hw : Ok w) : Calls Tryd.prog 65 #[.string s, .string ⟨#[47, 0]⟩] w fun e w' => (∃ i : Int, e = .returned (.int .i64 i) ∧ decide (0 ≤ i) = !noneOf s.data.toList) ∧ Fr w w' := by
  by_cases h8 : s.size ≤ 8
  · exact indexAny_short s h8 w hw
  · refine (Tryd.strings_IndexAny_long zero256 s ⟨#[47, 0]⟩ w (by decide) (by omega) (by omega) (by decide) (fun j b hb => ?_)).mono ?_
    · have : b ∈ ([47, 0] : List UInt8) := List.mem_of_getElem? hb
      simp at this
      rcases this with rfl | rfl <;> decide
    · rintro e w' ⟨rfl, rfl⟩
      exact ⟨⟨_, rfl, indexAny_noneOf _⟩, ((Fr.refl hw).alloc _).alloc _⟩

set_option maxRecDepth 100000 in
theorem containsAny_any (s : ByteArray) (hs : s.size ≤ 1073741824) (w : World) (hw : Ok w) : Calls Tryd.prog 63 #[.string s, .string ⟨#[47, 0]⟩] w fun e w' => e = .returned (.bool (!noneOf s.data.toList)) ∧ Fr w w' := by
  have f := Fr.refl hw
  go_enter Tryd.func63, Tryd.ntmps63
  go_wp2_with (go_at_call 65; refine (indexAny_any s hs _ f.ok).mono ?_; rintro e wx ⟨⟨i, rfl, hi⟩, q⟩; replace f := f.trans q; clear q; have HI := Lib.hid hi; clear hi)
  go_ret
  exact ⟨by rw [← HI.out]; rfl, f⟩

set_option maxHeartbeats 1600000 in
set_option maxRecDepth 100000 in
theorem name_any (s : ByteArray) (hs : s.size ≤ 1073741824) (w : World) (hw : Ok w) : Calls Tryd.prog 61 #[.string s] w fun e w' => e = .returned (.int .i64 (nameL s)) ∧ Fr w w' := by
  have f := Fr.refl hw
  have htl := Lib.toList_data s
  have hno : (¬ (1 ≤ s.size ∧ s.size ≤ 63 ∧ s.data.toList ≠ [46] ∧ s.data.toList ≠ [46, 46] ∧ noneOf s.data.toList = true)) → Hid (nameL s = 81) := fun h => Lib.hid (if_neg h)
  have HNO := Lib.hid hno
  clear hno
  have hemp : s.toList.isEmpty = decide (s.size = 0) := by
    rw [htl, Bool.eq_iff_iff]
    simp only [List.isEmpty_iff, decide_eq_true_eq]
    constructor
    · intro h; have := congrArg List.length h; rw [Array.length_toList] at this; exact this
    · intro h; exact List.eq_nil_of_length_eq_zero (by rw [Array.length_toList]; exact h)
  by_cases h0 : s.size = 0
  · have he : s.toList.isEmpty = true := by rw [hemp]; exact decide_eq_true h0
    have HR := HNO.out (fun h => by omega)
    clear hemp htl h0
    go_enter Tryd.func61, Tryd.ntmps61
    go_wp2_with fail
    go_ret
    exact ⟨by rw [HR.out]; rfl, f⟩
  have he : s.toList.isEmpty = false := by rw [hemp]; exact decide_eq_false h0
  clear hemp
  by_cases h1 : (63 : Int) < (s.size : Int)
  · have HR := HNO.out (fun h => by omega)
    clear htl h0
    go_enter Tryd.func61, Tryd.ntmps61
    go_wp2_with fail
    go_ret
    exact ⟨by rw [HR.out]; rfl, f⟩
  by_cases h2 : s.data.toList = [46]
  · have HR := HNO.out (fun h => h.2.2.1 h2)
    have hb : (s.toList == [46]) = true := by rw [htl, h2]; rfl
    clear htl h0 h2
    go_enter Tryd.func61, Tryd.ntmps61
    go_wp2_with fail
    go_ret
    exact ⟨by rw [HR.out]; rfl, f⟩
  have hb2 : (s.toList == [46]) = false := by rw [htl]; simpa using h2
  by_cases h3 : s.data.toList = [46, 46]
  · have HR := HNO.out (fun h => h.2.2.2.1 h3)
    have hb : (s.toList == [46, 46]) = true := by rw [htl, h3]; rfl
    clear htl h0 h2 h3
    go_enter Tryd.func61, Tryd.ntmps61
    go_wp2_with fail
    go_ret
    exact ⟨by rw [HR.out]; rfl, f⟩
  have hb3 : (s.toList == [46, 46]) = false := by rw [htl]; simpa using h3
  cases hn : noneOf s.data.toList with
  | false =>
    have HR := HNO.out (fun h => by rw [hn] at h; exact absurd h.2.2.2.2 (by simp))
    have HN := Lib.hid hn
    clear htl h0 h2 h3 hn
    go_enter Tryd.func61, Tryd.ntmps61
    go_wp2_with (go_at_call 63; refine (containsAny_any s hs _ f.ok).mono ?_; rw [HN.out]; rintro e wx ⟨rfl, q⟩; replace f := f.trans q; clear q)
    go_ret
    exact ⟨by rw [HR.out]; rfl, f⟩
  | true =>
    have HR : Hid (nameL s = 0) := Lib.hid (if_pos ⟨by omega, by omega, h2, h3, hn⟩)
    have HN := Lib.hid hn
    clear htl h0 h2 h3 hn
    go_enter Tryd.func61, Tryd.ntmps61
    go_wp2_with (go_at_call 63; refine (containsAny_any s hs _ f.ok).mono ?_; rw [HN.out]; rintro e wx ⟨rfl, q⟩; replace f := f.trans q; clear q)
    go_ret
    exact ⟨by rw [HR.out]; rfl, f⟩

def inB (lo n hi : Int) : Bool := decide (lo ≤ n ∧ n ≤ hi)
theorem inB_t {lo n hi : Int} (h : lo ≤ n ∧ n ≤ hi) : inB lo n hi = true := decide_eq_true h
theorem inB_f {lo n hi : Int} (h : ¬ (lo ≤ n ∧ n ≤ hi)) : inB lo n hi = false := decide_eq_false h
theorem in_any (n lo hi : Int) (w : World) : Calls Tryd.prog 60 #[.int .i64 n, .int .i64 lo, .int .i64 hi] w fun e w' => e = .returned (.bool (inB lo n hi)) ∧ w = w' := by
  by_cases h1 : lo ≤ n
  · by_cases h2 : n ≤ hi
    · have HD := Lib.hid (inB_t ⟨h1, h2⟩)
      go_enter Tryd.func60, Tryd.ntmps60
      go_wp2
      go_ret
      exact ⟨by rw [HD.out]; rfl, rfl⟩
    · have HD := Lib.hid (inB_f (lo := lo) (fun h => h2 h.2))
      go_enter Tryd.func60, Tryd.ntmps60
      go_wp2
      go_ret
      exact ⟨by rw [HD.out]; rfl, rfl⟩
  · have HD := Lib.hid (inB_f (hi := hi) (fun h => h1 h.1))
    go_enter Tryd.func60, Tryd.ntmps60
    go_wp2
    go_ret
    exact ⟨by rw [HD.out]; rfl, rfl⟩

theorem noZero_index (l : List UInt8) : decide (0 ≤ Lib.indexByte l 0) = !noZero l := by
  induction l with
  | nil => rfl
  | cons c l ih =>
    unfold Lib.indexByte noZero
    rw [List.all_cons]
    by_cases h : c = 0
    · subst h; simp
    · have h1 : (c == 0) = false := by simpa using h
      have h2 : (c != 0) = true := by simpa using h
      rw [h1, h2, Bool.true_and]
      unfold noZero at ih
      rw [← ih]
      have hge := Lib.indexByte_ge l 0
      by_cases hm : Lib.indexByte l 0 = -1
      · rw [hm]; rfl
      · simp [hm]
        constructor <;> intro <;> omega

end Go.Proofs.YtefkklgelmbaiaaDoor
set_option linter.unusedSimpArgs false
set_option linter.unusedVariables false
namespace Go.Proofs.YtefkklgelmbaiaaDoor
open Go.RowKit Go.Proofs

theorem nameL_or (s : ByteArray) : nameL s = 0 ∨ nameL s = 81 := by
  unfold nameL
  split
  · exact .inl rfl
  · exact .inr rfl

set_option maxHeartbeats 6400000 in
set_option maxRecDepth 100000 in
theorem check_any (n : Nod) (h : n.wf) (hnm : n.name.size ≤ 1073741824) (w : World) (hw : Ok w) :
    Calls Tryd.prog 50 #[.agg #[.int .i64 n.ty, .int .i64 n.par, .string n.name, .int .i64 n.size, .int .i64 n.mode, .int .u64 n.stamp, .int .i64 n.shadow, .string n.tgt]] w fun e w' => e = .returned (.int .i64 (checkL n)) ∧ Fr w w' := by
  obtain ⟨ty, par, nm, size, mode, stamp, shadow, tg⟩ := n
  have htg : tg.size ≤ 1099511627776 := h.2.2.2.2.2.2.2
  clear h
  dsimp only at hnm ⊢
  have HC : Hid (checkL ⟨ty, par, nm, size, mode, stamp, shadow, tg⟩ = _) := Lib.hid (by unfold checkL; dsimp only)
  by_cases h1 : 1 ≤ ty ∧ ty ≤ 3
  case neg =>
    have F1 := Lib.hid (inB_f h1)
    have HR := Lib.hid (HC.out.trans (if_pos (by omega)))
    clear HC h1
    obtain ⟨w1, g, hg, hw1, f, hz1, H⟩ := boxedN hw #[.int .i64 ty, .int .i64 par, .string nm, .int .i64 size, .int .i64 mode, .int .u64 stamp, .int .i64 shadow, .string tg] 48
    obtain ⟨c0, c1, c2, c3, c4, c5, c6, c7⟩ := blk8 H
    clear H
    go_enter Tryd.func50, Tryd.ntmps50
    go_wp2_with (first
      | (go_at_call 60; refine (in_any _ _ _ _).mono ?_; rintro e wx ⟨rfl, rfl⟩; (try rw [F1.out]); (try rw [F2.out]); (try rw [F5.out]); (try rw [F6.out]); (try rw [F7.out]); (try rw [F8.out]))
      | (go_at_call 61; refine (name_any nm hnm _ f.ok).mono ?_; rw [F3.out]; rintro e wx ⟨rfl, q⟩; replace c0 := q.cell c0; replace c1 := q.cell c1; replace c2 := q.cell c2; replace c3 := q.cell c3; replace c4 := q.cell c4; replace c5 := q.cell c5; replace c6 := q.cell c6; replace c7 := q.cell c7; replace f := f.trans q; clear q)
      | (go_at_call 62; refine (Tryd.strings_Contains_one tg 0 _).mono ?_; rw [F9.out]; rintro e wx ⟨rfl, rfl⟩))
    go_ret
    exact ⟨by rw [HR.out]; rfl, f⟩
  have F1 := Lib.hid (inB_t h1)
  by_cases h2 : 0 ≤ par ∧ par ≤ 1048575
  case neg =>
    have F2 := Lib.hid (inB_f h2)
    have HR := Lib.hid (HC.out.trans (if_pos (by omega)))
    clear HC h1 h2
    obtain ⟨w1, g, hg, hw1, f, hz1, H⟩ := boxedN hw #[.int .i64 ty, .int .i64 par, .string nm, .int .i64 size, .int .i64 mode, .int .u64 stamp, .int .i64 shadow, .string tg] 48
    obtain ⟨c0, c1, c2, c3, c4, c5, c6, c7⟩ := blk8 H
    clear H
    go_enter Tryd.func50, Tryd.ntmps50
    go_wp2_with (first
      | (go_at_call 60; refine (in_any _ _ _ _).mono ?_; rintro e wx ⟨rfl, rfl⟩; (try rw [F1.out]); (try rw [F2.out]); (try rw [F5.out]); (try rw [F6.out]); (try rw [F7.out]); (try rw [F8.out]))
      | (go_at_call 61; refine (name_any nm hnm _ f.ok).mono ?_; rw [F3.out]; rintro e wx ⟨rfl, q⟩; replace c0 := q.cell c0; replace c1 := q.cell c1; replace c2 := q.cell c2; replace c3 := q.cell c3; replace c4 := q.cell c4; replace c5 := q.cell c5; replace c6 := q.cell c6; replace c7 := q.cell c7; replace f := f.trans q; clear q)
      | (go_at_call 62; refine (Tryd.strings_Contains_one tg 0 _).mono ?_; rw [F9.out]; rintro e wx ⟨rfl, rfl⟩))
    go_ret
    exact ⟨by rw [HR.out]; rfl, f⟩
  have F2 := Lib.hid (inB_t h2)
  have HC1 := Lib.hid (HC.out.trans (if_neg (by omega)))
  clear HC
  rcases nameL_or nm with h3 | h3
  case inr =>
    have F3 := Lib.hid h3
    have HR := Lib.hid (HC1.out.trans (if_pos (by rw [h3]; decide)))
    clear HC1 h1 h2 h3
    obtain ⟨w1, g, hg, hw1, f, hz1, H⟩ := boxedN hw #[.int .i64 ty, .int .i64 par, .string nm, .int .i64 size, .int .i64 mode, .int .u64 stamp, .int .i64 shadow, .string tg] 48
    obtain ⟨c0, c1, c2, c3, c4, c5, c6, c7⟩ := blk8 H
    clear H
    go_enter Tryd.func50, Tryd.ntmps50
    go_wp2_with (first
      | (go_at_call 60; refine (in_any _ _ _ _).mono ?_; rintro e wx ⟨rfl, rfl⟩; (try rw [F1.out]); (try rw [F2.out]); (try rw [F5.out]); (try rw [F6.out]); (try rw [F7.out]); (try rw [F8.out]))
      | (go_at_call 61; refine (name_any nm hnm _ f.ok).mono ?_; rw [F3.out]; rintro e wx ⟨rfl, q⟩; replace c0 := q.cell c0; replace c1 := q.cell c1; replace c2 := q.cell c2; replace c3 := q.cell c3; replace c4 := q.cell c4; replace c5 := q.cell c5; replace c6 := q.cell c6; replace c7 := q.cell c7; replace f := f.trans q; clear q)
      | (go_at_call 62; refine (Tryd.strings_Contains_one tg 0 _).mono ?_; rw [F9.out]; rintro e wx ⟨rfl, rfl⟩))
    go_ret
    exact ⟨by rw [HR.out]; rfl, f⟩
  have F3 := Lib.hid h3
  have HC2 := Lib.hid (HC1.out.trans (if_neg (by rw [h3]; decide)))
  clear HC1 h3 h2
  have be : (ty = 1 ∧ (ty == 1) = true) ∨ (ty ≠ 1 ∧ (ty == 1) = false) := by
    by_cases h : ty = 1
    · exact .inl ⟨h, by simpa using h⟩
    · exact .inr ⟨h, by simpa using h⟩
  obtain ⟨lim, hlim, e1⟩ : ∃ lim : Int, (ty = 1 ∧ lim = 2147483648 ∨ ty ≠ 1 ∧ lim = 0) ∧ ((ty == 1) = true ∧ lim = 2147483648 ∨ (ty == 1) = false ∧ lim = 0) := by
    rcases be with ⟨a, b⟩ | ⟨a, b⟩
    · exact ⟨2147483648, .inl ⟨a, rfl⟩, .inl ⟨b, rfl⟩⟩
    · exact ⟨0, .inr ⟨a, rfl⟩, .inr ⟨b, rfl⟩⟩
  clear be
  by_cases h5 : 0 ≤ size ∧ size ≤ lim
  case neg =>
    have F5 := Lib.hid (inB_f h5)
    have HR := Lib.hid (HC2.out.trans (if_pos (by omega)))
    clear HC2 h1 h5 hlim
    rcases e1 with ⟨e1, rfl⟩ | ⟨e1, rfl⟩
    · obtain ⟨w1, g, hg, hw1, f, hz1, H⟩ := boxedN hw #[.int .i64 ty, .int .i64 par, .string nm, .int .i64 size, .int .i64 mode, .int .u64 stamp, .int .i64 shadow, .string tg] 48
      obtain ⟨c0, c1, c2, c3, c4, c5, c6, c7⟩ := blk8 H
      clear H
      go_enter Tryd.func50, Tryd.ntmps50
      go_wp2_with (first
        | (go_at_call 60; refine (in_any _ _ _ _).mono ?_; rintro e wx ⟨rfl, rfl⟩; (try rw [F1.out]); (try rw [F2.out]); (try rw [F5.out]); (try rw [F6.out]); (try rw [F7.out]); (try rw [F8.out]))
        | (go_at_call 61; refine (name_any nm hnm _ f.ok).mono ?_; rw [F3.out]; rintro e wx ⟨rfl, q⟩; replace c0 := q.cell c0; replace c1 := q.cell c1; replace c2 := q.cell c2; replace c3 := q.cell c3; replace c4 := q.cell c4; replace c5 := q.cell c5; replace c6 := q.cell c6; replace c7 := q.cell c7; replace f := f.trans q; clear q)
        | (go_at_call 62; refine (Tryd.strings_Contains_one tg 0 _).mono ?_; rw [F9.out]; rintro e wx ⟨rfl, rfl⟩))
      go_ret
      exact ⟨by rw [HR.out]; rfl, f⟩
    · obtain ⟨w1, g, hg, hw1, f, hz1, H⟩ := boxedN hw #[.int .i64 ty, .int .i64 par, .string nm, .int .i64 size, .int .i64 mode, .int .u64 stamp, .int .i64 shadow, .string tg] 48
      obtain ⟨c0, c1, c2, c3, c4, c5, c6, c7⟩ := blk8 H
      clear H
      go_enter Tryd.func50, Tryd.ntmps50
      go_wp2_with (first
        | (go_at_call 60; refine (in_any _ _ _ _).mono ?_; rintro e wx ⟨rfl, rfl⟩; (try rw [F1.out]); (try rw [F2.out]); (try rw [F5.out]); (try rw [F6.out]); (try rw [F7.out]); (try rw [F8.out]))
        | (go_at_call 61; refine (name_any nm hnm _ f.ok).mono ?_; rw [F3.out]; rintro e wx ⟨rfl, q⟩; replace c0 := q.cell c0; replace c1 := q.cell c1; replace c2 := q.cell c2; replace c3 := q.cell c3; replace c4 := q.cell c4; replace c5 := q.cell c5; replace c6 := q.cell c6; replace c7 := q.cell c7; replace f := f.trans q; clear q)
        | (go_at_call 62; refine (Tryd.strings_Contains_one tg 0 _).mono ?_; rw [F9.out]; rintro e wx ⟨rfl, rfl⟩))
      go_ret
      exact ⟨by rw [HR.out]; rfl, f⟩
  have F5 := Lib.hid (inB_t h5)
  by_cases h6 : 0 ≤ mode ∧ mode ≤ 4095
  case neg =>
    have F6 := Lib.hid (inB_f h6)
    have HR := Lib.hid (HC2.out.trans (if_pos (by omega)))
    clear HC2 h1 h5 h6 hlim
    rcases e1 with ⟨e1, rfl⟩ | ⟨e1, rfl⟩
    · obtain ⟨w1, g, hg, hw1, f, hz1, H⟩ := boxedN hw #[.int .i64 ty, .int .i64 par, .string nm, .int .i64 size, .int .i64 mode, .int .u64 stamp, .int .i64 shadow, .string tg] 48
      obtain ⟨c0, c1, c2, c3, c4, c5, c6, c7⟩ := blk8 H
      clear H
      go_enter Tryd.func50, Tryd.ntmps50
      go_wp2_with (first
        | (go_at_call 60; refine (in_any _ _ _ _).mono ?_; rintro e wx ⟨rfl, rfl⟩; (try rw [F1.out]); (try rw [F2.out]); (try rw [F5.out]); (try rw [F6.out]); (try rw [F7.out]); (try rw [F8.out]))
        | (go_at_call 61; refine (name_any nm hnm _ f.ok).mono ?_; rw [F3.out]; rintro e wx ⟨rfl, q⟩; replace c0 := q.cell c0; replace c1 := q.cell c1; replace c2 := q.cell c2; replace c3 := q.cell c3; replace c4 := q.cell c4; replace c5 := q.cell c5; replace c6 := q.cell c6; replace c7 := q.cell c7; replace f := f.trans q; clear q)
        | (go_at_call 62; refine (Tryd.strings_Contains_one tg 0 _).mono ?_; rw [F9.out]; rintro e wx ⟨rfl, rfl⟩))
      go_ret
      exact ⟨by rw [HR.out]; rfl, f⟩
    · obtain ⟨w1, g, hg, hw1, f, hz1, H⟩ := boxedN hw #[.int .i64 ty, .int .i64 par, .string nm, .int .i64 size, .int .i64 mode, .int .u64 stamp, .int .i64 shadow, .string tg] 48
      obtain ⟨c0, c1, c2, c3, c4, c5, c6, c7⟩ := blk8 H
      clear H
      go_enter Tryd.func50, Tryd.ntmps50
      go_wp2_with (first
        | (go_at_call 60; refine (in_any _ _ _ _).mono ?_; rintro e wx ⟨rfl, rfl⟩; (try rw [F1.out]); (try rw [F2.out]); (try rw [F5.out]); (try rw [F6.out]); (try rw [F7.out]); (try rw [F8.out]))
        | (go_at_call 61; refine (name_any nm hnm _ f.ok).mono ?_; rw [F3.out]; rintro e wx ⟨rfl, q⟩; replace c0 := q.cell c0; replace c1 := q.cell c1; replace c2 := q.cell c2; replace c3 := q.cell c3; replace c4 := q.cell c4; replace c5 := q.cell c5; replace c6 := q.cell c6; replace c7 := q.cell c7; replace f := f.trans q; clear q)
        | (go_at_call 62; refine (Tryd.strings_Contains_one tg 0 _).mono ?_; rw [F9.out]; rintro e wx ⟨rfl, rfl⟩))
      go_ret
      exact ⟨by rw [HR.out]; rfl, f⟩
  have F6 := Lib.hid (inB_t h6)
  have hs : (shadow = 0 ∧ (shadow == 0) = true) ∨ (shadow ≠ 0 ∧ (shadow == 0) = false) := by
    by_cases h : shadow = 0
    · exact .inl ⟨h, by simpa using h⟩
    · exact .inr ⟨h, by simpa using h⟩
  by_cases h7 : shadow = 0 ∨ (2 ≤ shadow ∧ shadow ≤ 1048575)
  case neg =>
    have F7 := Lib.hid (inB_f (lo := 2) (n := shadow) (hi := 1048575) (by omega))
    have HR := Lib.hid (HC2.out.trans (if_pos (by omega)))
    have s1 : ¬ shadow = 0 := fun h => h7 (.inl h)
    have s0 : (shadow != 0) = true := by simpa using s1
    clear HC2 h1 h5 h6 hlim h7 hs
    rcases e1 with ⟨e1, rfl⟩ | ⟨e1, rfl⟩
    · obtain ⟨w1, g, hg, hw1, f, hz1, H⟩ := boxedN hw #[.int .i64 ty, .int .i64 par, .string nm, .int .i64 size, .int .i64 mode, .int .u64 stamp, .int .i64 shadow, .string tg] 48
      obtain ⟨c0, c1, c2, c3, c4, c5, c6, c7⟩ := blk8 H
      clear H
      go_enter Tryd.func50, Tryd.ntmps50
      go_wp2_with (first
        | (go_at_call 60; refine (in_any _ _ _ _).mono ?_; rintro e wx ⟨rfl, rfl⟩; (try rw [F1.out]); (try rw [F2.out]); (try rw [F5.out]); (try rw [F6.out]); (try rw [F7.out]); (try rw [F8.out]))
        | (go_at_call 61; refine (name_any nm hnm _ f.ok).mono ?_; rw [F3.out]; rintro e wx ⟨rfl, q⟩; replace c0 := q.cell c0; replace c1 := q.cell c1; replace c2 := q.cell c2; replace c3 := q.cell c3; replace c4 := q.cell c4; replace c5 := q.cell c5; replace c6 := q.cell c6; replace c7 := q.cell c7; replace f := f.trans q; clear q)
        | (go_at_call 62; refine (Tryd.strings_Contains_one tg 0 _).mono ?_; rw [F9.out]; rintro e wx ⟨rfl, rfl⟩))
      go_ret
      exact ⟨by rw [HR.out]; rfl, f⟩
    · obtain ⟨w1, g, hg, hw1, f, hz1, H⟩ := boxedN hw #[.int .i64 ty, .int .i64 par, .string nm, .int .i64 size, .int .i64 mode, .int .u64 stamp, .int .i64 shadow, .string tg] 48
      obtain ⟨c0, c1, c2, c3, c4, c5, c6, c7⟩ := blk8 H
      clear H
      go_enter Tryd.func50, Tryd.ntmps50
      go_wp2_with (first
        | (go_at_call 60; refine (in_any _ _ _ _).mono ?_; rintro e wx ⟨rfl, rfl⟩; (try rw [F1.out]); (try rw [F2.out]); (try rw [F5.out]); (try rw [F6.out]); (try rw [F7.out]); (try rw [F8.out]))
        | (go_at_call 61; refine (name_any nm hnm _ f.ok).mono ?_; rw [F3.out]; rintro e wx ⟨rfl, q⟩; replace c0 := q.cell c0; replace c1 := q.cell c1; replace c2 := q.cell c2; replace c3 := q.cell c3; replace c4 := q.cell c4; replace c5 := q.cell c5; replace c6 := q.cell c6; replace c7 := q.cell c7; replace f := f.trans q; clear q)
        | (go_at_call 62; refine (Tryd.strings_Contains_one tg 0 _).mono ?_; rw [F9.out]; rintro e wx ⟨rfl, rfl⟩))
      go_ret
      exact ⟨by rw [HR.out]; rfl, f⟩
  have HC3 := Lib.hid (HC2.out.trans (if_neg (by omega)))
  have hs2 : shadow = 0 ∨ ((shadow != 0) = true ∧ ¬ shadow = 0 ∧ inB 2 shadow 1048575 = true) := by
    rcases hs with h | h
    · exact .inl h.1
    · exact .inr ⟨by simpa using h.1, h.1, inB_t (by omega)⟩
  clear HC2 h5 h6 h7 hs
  have hemp : tg.toList.isEmpty = decide (tg.data.toList = []) := by
    rw [Lib.toList_data, Bool.eq_iff_iff]
    simp only [List.isEmpty_iff, decide_eq_true_eq]
  by_cases h8 : ty = 3
  case neg =>
    have e3 : (ty == 3) = false := by simpa using h8
    cases ht : decide (tg.data.toList = []) with
    | false =>
      have te : tg.toList.isEmpty = false := hemp.trans ht
      have HR := Lib.hid (HC3.out.trans (if_pos (by unfold targetB; rw [if_neg h8]; exact ht)))
      clear HC3 h1 h8 hlim hemp ht
      rcases e1 with ⟨e1, rfl⟩ | ⟨e1, rfl⟩
      · rcases hs2 with rfl | ⟨s0, s1, h7⟩
        · obtain ⟨w1, g, hg, hw1, f, hz1, H⟩ := boxedN hw #[.int .i64 ty, .int .i64 par, .string nm, .int .i64 size, .int .i64 mode, .int .u64 stamp, .int .i64 (0 : Int), .string tg] 48
          obtain ⟨c0, c1, c2, c3, c4, c5, c6, c7⟩ := blk8 H
          clear H
          go_enter Tryd.func50, Tryd.ntmps50
          go_wp2_with (first
            | (go_at_call 60; refine (in_any _ _ _ _).mono ?_; rintro e wx ⟨rfl, rfl⟩; (try rw [F1.out]); (try rw [F2.out]); (try rw [F5.out]); (try rw [F6.out]); (try rw [F7.out]); (try rw [F8.out]))
            | (go_at_call 61; refine (name_any nm hnm _ f.ok).mono ?_; rw [F3.out]; rintro e wx ⟨rfl, q⟩; replace c0 := q.cell c0; replace c1 := q.cell c1; replace c2 := q.cell c2; replace c3 := q.cell c3; replace c4 := q.cell c4; replace c5 := q.cell c5; replace c6 := q.cell c6; replace c7 := q.cell c7; replace f := f.trans q; clear q)
            | (go_at_call 62; refine (Tryd.strings_Contains_one tg 0 _).mono ?_; rw [F9.out]; rintro e wx ⟨rfl, rfl⟩))
          go_ret
          exact ⟨by rw [HR.out]; rfl, f⟩
        · have F7 := Lib.hid h7
          clear h7
          obtain ⟨w1, g, hg, hw1, f, hz1, H⟩ := boxedN hw #[.int .i64 ty, .int .i64 par, .string nm, .int .i64 size, .int .i64 mode, .int .u64 stamp, .int .i64 shadow, .string tg] 48
          obtain ⟨c0, c1, c2, c3, c4, c5, c6, c7⟩ := blk8 H
          clear H
          go_enter Tryd.func50, Tryd.ntmps50
          go_wp2_with (first
            | (go_at_call 60; refine (in_any _ _ _ _).mono ?_; rintro e wx ⟨rfl, rfl⟩; (try rw [F1.out]); (try rw [F2.out]); (try rw [F5.out]); (try rw [F6.out]); (try rw [F7.out]); (try rw [F8.out]))
            | (go_at_call 61; refine (name_any nm hnm _ f.ok).mono ?_; rw [F3.out]; rintro e wx ⟨rfl, q⟩; replace c0 := q.cell c0; replace c1 := q.cell c1; replace c2 := q.cell c2; replace c3 := q.cell c3; replace c4 := q.cell c4; replace c5 := q.cell c5; replace c6 := q.cell c6; replace c7 := q.cell c7; replace f := f.trans q; clear q)
            | (go_at_call 62; refine (Tryd.strings_Contains_one tg 0 _).mono ?_; rw [F9.out]; rintro e wx ⟨rfl, rfl⟩))
          go_ret
          exact ⟨by rw [HR.out]; rfl, f⟩
      · rcases hs2 with rfl | ⟨s0, s1, h7⟩
        · obtain ⟨w1, g, hg, hw1, f, hz1, H⟩ := boxedN hw #[.int .i64 ty, .int .i64 par, .string nm, .int .i64 size, .int .i64 mode, .int .u64 stamp, .int .i64 (0 : Int), .string tg] 48
          obtain ⟨c0, c1, c2, c3, c4, c5, c6, c7⟩ := blk8 H
          clear H
          go_enter Tryd.func50, Tryd.ntmps50
          go_wp2_with (first
            | (go_at_call 60; refine (in_any _ _ _ _).mono ?_; rintro e wx ⟨rfl, rfl⟩; (try rw [F1.out]); (try rw [F2.out]); (try rw [F5.out]); (try rw [F6.out]); (try rw [F7.out]); (try rw [F8.out]))
            | (go_at_call 61; refine (name_any nm hnm _ f.ok).mono ?_; rw [F3.out]; rintro e wx ⟨rfl, q⟩; replace c0 := q.cell c0; replace c1 := q.cell c1; replace c2 := q.cell c2; replace c3 := q.cell c3; replace c4 := q.cell c4; replace c5 := q.cell c5; replace c6 := q.cell c6; replace c7 := q.cell c7; replace f := f.trans q; clear q)
            | (go_at_call 62; refine (Tryd.strings_Contains_one tg 0 _).mono ?_; rw [F9.out]; rintro e wx ⟨rfl, rfl⟩))
          go_ret
          exact ⟨by rw [HR.out]; rfl, f⟩
        · have F7 := Lib.hid h7
          clear h7
          obtain ⟨w1, g, hg, hw1, f, hz1, H⟩ := boxedN hw #[.int .i64 ty, .int .i64 par, .string nm, .int .i64 size, .int .i64 mode, .int .u64 stamp, .int .i64 shadow, .string tg] 48
          obtain ⟨c0, c1, c2, c3, c4, c5, c6, c7⟩ := blk8 H
          clear H
          go_enter Tryd.func50, Tryd.ntmps50
          go_wp2_with (first
            | (go_at_call 60; refine (in_any _ _ _ _).mono ?_; rintro e wx ⟨rfl, rfl⟩; (try rw [F1.out]); (try rw [F2.out]); (try rw [F5.out]); (try rw [F6.out]); (try rw [F7.out]); (try rw [F8.out]))
            | (go_at_call 61; refine (name_any nm hnm _ f.ok).mono ?_; rw [F3.out]; rintro e wx ⟨rfl, q⟩; replace c0 := q.cell c0; replace c1 := q.cell c1; replace c2 := q.cell c2; replace c3 := q.cell c3; replace c4 := q.cell c4; replace c5 := q.cell c5; replace c6 := q.cell c6; replace c7 := q.cell c7; replace f := f.trans q; clear q)
            | (go_at_call 62; refine (Tryd.strings_Contains_one tg 0 _).mono ?_; rw [F9.out]; rintro e wx ⟨rfl, rfl⟩))
          go_ret
          exact ⟨by rw [HR.out]; rfl, f⟩
    | true =>
      have te : tg.toList.isEmpty = true := hemp.trans ht
      have HR := Lib.hid (HC3.out.trans (if_neg (by unfold targetB; rw [if_neg h8, ht]; decide)))
      clear HC3 h1 h8 hlim hemp ht
      rcases e1 with ⟨e1, rfl⟩ | ⟨e1, rfl⟩
      · rcases hs2 with rfl | ⟨s0, s1, h7⟩
        · obtain ⟨w1, g, hg, hw1, f, hz1, H⟩ := boxedN hw #[.int .i64 ty, .int .i64 par, .string nm, .int .i64 size, .int .i64 mode, .int .u64 stamp, .int .i64 (0 : Int), .string tg] 48
          obtain ⟨c0, c1, c2, c3, c4, c5, c6, c7⟩ := blk8 H
          clear H
          go_enter Tryd.func50, Tryd.ntmps50
          go_wp2_with (first
            | (go_at_call 60; refine (in_any _ _ _ _).mono ?_; rintro e wx ⟨rfl, rfl⟩; (try rw [F1.out]); (try rw [F2.out]); (try rw [F5.out]); (try rw [F6.out]); (try rw [F7.out]); (try rw [F8.out]))
            | (go_at_call 61; refine (name_any nm hnm _ f.ok).mono ?_; rw [F3.out]; rintro e wx ⟨rfl, q⟩; replace c0 := q.cell c0; replace c1 := q.cell c1; replace c2 := q.cell c2; replace c3 := q.cell c3; replace c4 := q.cell c4; replace c5 := q.cell c5; replace c6 := q.cell c6; replace c7 := q.cell c7; replace f := f.trans q; clear q)
            | (go_at_call 62; refine (Tryd.strings_Contains_one tg 0 _).mono ?_; rw [F9.out]; rintro e wx ⟨rfl, rfl⟩))
          go_ret
          exact ⟨by rw [HR.out]; rfl, f⟩
        · have F7 := Lib.hid h7
          clear h7
          obtain ⟨w1, g, hg, hw1, f, hz1, H⟩ := boxedN hw #[.int .i64 ty, .int .i64 par, .string nm, .int .i64 size, .int .i64 mode, .int .u64 stamp, .int .i64 shadow, .string tg] 48
          obtain ⟨c0, c1, c2, c3, c4, c5, c6, c7⟩ := blk8 H
          clear H
          go_enter Tryd.func50, Tryd.ntmps50
          go_wp2_with (first
            | (go_at_call 60; refine (in_any _ _ _ _).mono ?_; rintro e wx ⟨rfl, rfl⟩; (try rw [F1.out]); (try rw [F2.out]); (try rw [F5.out]); (try rw [F6.out]); (try rw [F7.out]); (try rw [F8.out]))
            | (go_at_call 61; refine (name_any nm hnm _ f.ok).mono ?_; rw [F3.out]; rintro e wx ⟨rfl, q⟩; replace c0 := q.cell c0; replace c1 := q.cell c1; replace c2 := q.cell c2; replace c3 := q.cell c3; replace c4 := q.cell c4; replace c5 := q.cell c5; replace c6 := q.cell c6; replace c7 := q.cell c7; replace f := f.trans q; clear q)
            | (go_at_call 62; refine (Tryd.strings_Contains_one tg 0 _).mono ?_; rw [F9.out]; rintro e wx ⟨rfl, rfl⟩))
          go_ret
          exact ⟨by rw [HR.out]; rfl, f⟩
      · rcases hs2 with rfl | ⟨s0, s1, h7⟩
        · obtain ⟨w1, g, hg, hw1, f, hz1, H⟩ := boxedN hw #[.int .i64 ty, .int .i64 par, .string nm, .int .i64 size, .int .i64 mode, .int .u64 stamp, .int .i64 (0 : Int), .string tg] 48
          obtain ⟨c0, c1, c2, c3, c4, c5, c6, c7⟩ := blk8 H
          clear H
          go_enter Tryd.func50, Tryd.ntmps50
          go_wp2_with (first
            | (go_at_call 60; refine (in_any _ _ _ _).mono ?_; rintro e wx ⟨rfl, rfl⟩; (try rw [F1.out]); (try rw [F2.out]); (try rw [F5.out]); (try rw [F6.out]); (try rw [F7.out]); (try rw [F8.out]))
            | (go_at_call 61; refine (name_any nm hnm _ f.ok).mono ?_; rw [F3.out]; rintro e wx ⟨rfl, q⟩; replace c0 := q.cell c0; replace c1 := q.cell c1; replace c2 := q.cell c2; replace c3 := q.cell c3; replace c4 := q.cell c4; replace c5 := q.cell c5; replace c6 := q.cell c6; replace c7 := q.cell c7; replace f := f.trans q; clear q)
            | (go_at_call 62; refine (Tryd.strings_Contains_one tg 0 _).mono ?_; rw [F9.out]; rintro e wx ⟨rfl, rfl⟩))
          go_ret
          exact ⟨by rw [HR.out]; rfl, f⟩
        · have F7 := Lib.hid h7
          clear h7
          obtain ⟨w1, g, hg, hw1, f, hz1, H⟩ := boxedN hw #[.int .i64 ty, .int .i64 par, .string nm, .int .i64 size, .int .i64 mode, .int .u64 stamp, .int .i64 shadow, .string tg] 48
          obtain ⟨c0, c1, c2, c3, c4, c5, c6, c7⟩ := blk8 H
          clear H
          go_enter Tryd.func50, Tryd.ntmps50
          go_wp2_with (first
            | (go_at_call 60; refine (in_any _ _ _ _).mono ?_; rintro e wx ⟨rfl, rfl⟩; (try rw [F1.out]); (try rw [F2.out]); (try rw [F5.out]); (try rw [F6.out]); (try rw [F7.out]); (try rw [F8.out]))
            | (go_at_call 61; refine (name_any nm hnm _ f.ok).mono ?_; rw [F3.out]; rintro e wx ⟨rfl, q⟩; replace c0 := q.cell c0; replace c1 := q.cell c1; replace c2 := q.cell c2; replace c3 := q.cell c3; replace c4 := q.cell c4; replace c5 := q.cell c5; replace c6 := q.cell c6; replace c7 := q.cell c7; replace f := f.trans q; clear q)
            | (go_at_call 62; refine (Tryd.strings_Contains_one tg 0 _).mono ?_; rw [F9.out]; rintro e wx ⟨rfl, rfl⟩))
          go_ret
          exact ⟨by rw [HR.out]; rfl, f⟩
  have e3 : (ty == 3) = true := by simpa using h8
  have e1' : (ty == 1) = false ∧ lim = 0 := by
    rcases e1 with ⟨h, _⟩ | h
    · subst h8; exact absurd h (by decide)
    · exact h
  obtain ⟨e1, rfl⟩ := e1'
  have hT : targetB ty tg = (decide (1 ≤ tg.size ∧ tg.size ≤ 127) && noZero tg.data.toList) := by unfold targetB; rw [if_pos h8]
  by_cases h9 : 1 ≤ tg.size ∧ tg.size ≤ 127
  case neg =>
    have F8 := Lib.hid (inB_f (lo := 1) (n := (tg.size : Int)) (hi := 127) (by omega))
    have HR := Lib.hid (HC3.out.trans (if_pos (by rw [hT, decide_eq_false h9]; rfl)))
    clear HC3 h1 h8 hlim hemp hT h9
    rcases hs2 with rfl | ⟨s0, s1, h7⟩
    · obtain ⟨w1, g, hg, hw1, f, hz1, H⟩ := boxedN hw #[.int .i64 ty, .int .i64 par, .string nm, .int .i64 size, .int .i64 mode, .int .u64 stamp, .int .i64 (0 : Int), .string tg] 48
      obtain ⟨c0, c1, c2, c3, c4, c5, c6, c7⟩ := blk8 H
      clear H
      go_enter Tryd.func50, Tryd.ntmps50
      go_wp2_with (first
        | (go_at_call 60; refine (in_any _ _ _ _).mono ?_; rintro e wx ⟨rfl, rfl⟩; (try rw [F1.out]); (try rw [F2.out]); (try rw [F5.out]); (try rw [F6.out]); (try rw [F7.out]); (try rw [F8.out]))
        | (go_at_call 61; refine (name_any nm hnm _ f.ok).mono ?_; rw [F3.out]; rintro e wx ⟨rfl, q⟩; replace c0 := q.cell c0; replace c1 := q.cell c1; replace c2 := q.cell c2; replace c3 := q.cell c3; replace c4 := q.cell c4; replace c5 := q.cell c5; replace c6 := q.cell c6; replace c7 := q.cell c7; replace f := f.trans q; clear q)
        | (go_at_call 62; refine (Tryd.strings_Contains_one tg 0 _).mono ?_; rw [F9.out]; rintro e wx ⟨rfl, rfl⟩))
      go_ret
      exact ⟨by rw [HR.out]; rfl, f⟩
    · have F7 := Lib.hid h7
      clear h7
      obtain ⟨w1, g, hg, hw1, f, hz1, H⟩ := boxedN hw #[.int .i64 ty, .int .i64 par, .string nm, .int .i64 size, .int .i64 mode, .int .u64 stamp, .int .i64 shadow, .string tg] 48
      obtain ⟨c0, c1, c2, c3, c4, c5, c6, c7⟩ := blk8 H
      clear H
      go_enter Tryd.func50, Tryd.ntmps50
      go_wp2_with (first
        | (go_at_call 60; refine (in_any _ _ _ _).mono ?_; rintro e wx ⟨rfl, rfl⟩; (try rw [F1.out]); (try rw [F2.out]); (try rw [F5.out]); (try rw [F6.out]); (try rw [F7.out]); (try rw [F8.out]))
        | (go_at_call 61; refine (name_any nm hnm _ f.ok).mono ?_; rw [F3.out]; rintro e wx ⟨rfl, q⟩; replace c0 := q.cell c0; replace c1 := q.cell c1; replace c2 := q.cell c2; replace c3 := q.cell c3; replace c4 := q.cell c4; replace c5 := q.cell c5; replace c6 := q.cell c6; replace c7 := q.cell c7; replace f := f.trans q; clear q)
        | (go_at_call 62; refine (Tryd.strings_Contains_one tg 0 _).mono ?_; rw [F9.out]; rintro e wx ⟨rfl, rfl⟩))
      go_ret
      exact ⟨by rw [HR.out]; rfl, f⟩
  have F8 := Lib.hid (inB_t (lo := 1) (n := (tg.size : Int)) (hi := 127) (by omega))
  rw [decide_eq_true h9, Bool.true_and] at hT
  have hz := noZero_index tg.data.toList
  cases hn : noZero tg.data.toList with
  | false =>
    rw [hn] at hz hT
    have F9 := Lib.hid hz
    have HR := Lib.hid (HC3.out.trans (if_pos hT))
    clear HC3 h1 h8 hlim hemp hT h9 hz hn
    rcases hs2 with rfl | ⟨s0, s1, h7⟩
    · obtain ⟨w1, g, hg, hw1, f, hz1, H⟩ := boxedN hw #[.int .i64 ty, .int .i64 par, .string nm, .int .i64 size, .int .i64 mode, .int .u64 stamp, .int .i64 (0 : Int), .string tg] 48
      obtain ⟨c0, c1, c2, c3, c4, c5, c6, c7⟩ := blk8 H
      clear H
      go_enter Tryd.func50, Tryd.ntmps50
      go_wp2_with (first
        | (go_at_call 60; refine (in_any _ _ _ _).mono ?_; rintro e wx ⟨rfl, rfl⟩; (try rw [F1.out]); (try rw [F2.out]); (try rw [F5.out]); (try rw [F6.out]); (try rw [F7.out]); (try rw [F8.out]))
        | (go_at_call 61; refine (name_any nm hnm _ f.ok).mono ?_; rw [F3.out]; rintro e wx ⟨rfl, q⟩; replace c0 := q.cell c0; replace c1 := q.cell c1; replace c2 := q.cell c2; replace c3 := q.cell c3; replace c4 := q.cell c4; replace c5 := q.cell c5; replace c6 := q.cell c6; replace c7 := q.cell c7; replace f := f.trans q; clear q)
        | (go_at_call 62; refine (Tryd.strings_Contains_one tg 0 _).mono ?_; rw [F9.out]; rintro e wx ⟨rfl, rfl⟩))
      go_ret
      exact ⟨by rw [HR.out]; rfl, f⟩
    · have F7 := Lib.hid h7
      clear h7
      obtain ⟨w1, g, hg, hw1, f, hz1, H⟩ := boxedN hw #[.int .i64 ty, .int .i64 par, .string nm, .int .i64 size, .int .i64 mode, .int .u64 stamp, .int .i64 shadow, .string tg] 48
      obtain ⟨c0, c1, c2, c3, c4, c5, c6, c7⟩ := blk8 H
      clear H
      go_enter Tryd.func50, Tryd.ntmps50
      go_wp2_with (first
        | (go_at_call 60; refine (in_any _ _ _ _).mono ?_; rintro e wx ⟨rfl, rfl⟩; (try rw [F1.out]); (try rw [F2.out]); (try rw [F5.out]); (try rw [F6.out]); (try rw [F7.out]); (try rw [F8.out]))
        | (go_at_call 61; refine (name_any nm hnm _ f.ok).mono ?_; rw [F3.out]; rintro e wx ⟨rfl, q⟩; replace c0 := q.cell c0; replace c1 := q.cell c1; replace c2 := q.cell c2; replace c3 := q.cell c3; replace c4 := q.cell c4; replace c5 := q.cell c5; replace c6 := q.cell c6; replace c7 := q.cell c7; replace f := f.trans q; clear q)
        | (go_at_call 62; refine (Tryd.strings_Contains_one tg 0 _).mono ?_; rw [F9.out]; rintro e wx ⟨rfl, rfl⟩))
      go_ret
      exact ⟨by rw [HR.out]; rfl, f⟩
  | true =>
    rw [hn] at hz hT
    have F9 := Lib.hid hz
    have HR := Lib.hid (HC3.out.trans (if_neg (by rw [hT]; decide)))
    clear HC3 h1 h8 hlim hemp hT h9 hz hn
    rcases hs2 with rfl | ⟨s0, s1, h7⟩
    · obtain ⟨w1, g, hg, hw1, f, hz1, H⟩ := boxedN hw #[.int .i64 ty, .int .i64 par, .string nm, .int .i64 size, .int .i64 mode, .int .u64 stamp, .int .i64 (0 : Int), .string tg] 48
      obtain ⟨c0, c1, c2, c3, c4, c5, c6, c7⟩ := blk8 H
      clear H
      go_enter Tryd.func50, Tryd.ntmps50
      go_wp2_with (first
        | (go_at_call 60; refine (in_any _ _ _ _).mono ?_; rintro e wx ⟨rfl, rfl⟩; (try rw [F1.out]); (try rw [F2.out]); (try rw [F5.out]); (try rw [F6.out]); (try rw [F7.out]); (try rw [F8.out]))
        | (go_at_call 61; refine (name_any nm hnm _ f.ok).mono ?_; rw [F3.out]; rintro e wx ⟨rfl, q⟩; replace c0 := q.cell c0; replace c1 := q.cell c1; replace c2 := q.cell c2; replace c3 := q.cell c3; replace c4 := q.cell c4; replace c5 := q.cell c5; replace c6 := q.cell c6; replace c7 := q.cell c7; replace f := f.trans q; clear q)
        | (go_at_call 62; refine (Tryd.strings_Contains_one tg 0 _).mono ?_; rw [F9.out]; rintro e wx ⟨rfl, rfl⟩))
      go_ret
      exact ⟨by rw [HR.out]; rfl, f⟩
    · have F7 := Lib.hid h7
      clear h7
      obtain ⟨w1, g, hg, hw1, f, hz1, H⟩ := boxedN hw #[.int .i64 ty, .int .i64 par, .string nm, .int .i64 size, .int .i64 mode, .int .u64 stamp, .int .i64 shadow, .string tg] 48
      obtain ⟨c0, c1, c2, c3, c4, c5, c6, c7⟩ := blk8 H
      clear H
      go_enter Tryd.func50, Tryd.ntmps50
      go_wp2_with (first
        | (go_at_call 60; refine (in_any _ _ _ _).mono ?_; rintro e wx ⟨rfl, rfl⟩; (try rw [F1.out]); (try rw [F2.out]); (try rw [F5.out]); (try rw [F6.out]); (try rw [F7.out]); (try rw [F8.out]))
        | (go_at_call 61; refine (name_any nm hnm _ f.ok).mono ?_; rw [F3.out]; rintro e wx ⟨rfl, q⟩; replace c0 := q.cell c0; replace c1 := q.cell c1; replace c2 := q.cell c2; replace c3 := q.cell c3; replace c4 := q.cell c4; replace c5 := q.cell c5; replace c6 := q.cell c6; replace c7 := q.cell c7; replace f := f.trans q; clear q)
        | (go_at_call 62; refine (Tryd.strings_Contains_one tg 0 _).mono ?_; rw [F9.out]; rintro e wx ⟨rfl, rfl⟩))
      go_ret
      exact ⟨by rw [HR.out]; rfl, f⟩
end Go.Proofs.YtefkklgelmbaiaaDoor
set_option linter.unusedSimpArgs false
set_option linter.unusedVariables false
namespace Go.Proofs.YtefkklgelmbaiaaDoor
open Go.RowKit Go.Proofs Go.Proofs.YtefkklgelmbaiaaDoorW.PrintWords Go.Proofs.YtefkklgelmbaiaaDoorW.PrintMore

theorem OwnB.set {w : World} {B g n c : Nat} {xs : List Int} (h : OwnB w B (.slice (some ⟨g, 0, none⟩) n c) xs) (j : Nat) (x : Int) :
    OwnB (w.setCell ⟨g, j, none⟩ (.int .u8 x)) B (.slice (some ⟨g, 0, none⟩) n c) (xs.set j x) ∧ w.grownBy (w.setCell ⟨g, j, none⟩ (.int .u8 x)) (some g) := by
  have hn : n = xs.length := by obtain ⟨a, c', he⟩ := h.form; injection he
  subst hn
  obtain ⟨h1, h2⟩ := World.ownsRow.stored h j (.int .u8 x)
  refine ⟨?_, h2⟩
  unfold OwnB
  rw [List.length_set, List.map_set]
  exact h1
theorem OwnB.blk {w : World} {B : Nat} {v : Value} {xs : List Int} (h : OwnB w B v xs) (hp : 0 < xs.length) : ∃ g c, v = .slice (some ⟨g, 0, none⟩) xs.length c ∧ B ≤ g ∧ g < w.heap.size := by
  obtain ⟨g, c, he, hb, hl⟩ := World.ownsRow.form h hp
  exact ⟨g, c, he, hb, hl⟩
theorem OwnB.cellAt {w : World} {B g n c : Nat} {xs : List Int} (h : OwnB w B (.slice (some ⟨g, 0, none⟩) n c) xs) (j : Nat) (hj : j < xs.length) : w.cell? ⟨g, j, none⟩ = some (.int .u8 xs[j]) := by
  have hn : n = xs.length := by obtain ⟨a, c', he⟩ := h.form; injection he
  subst hn
  rw [World.ownsRow.cellAt h j (by omega)]
  simp [hj]
theorem OwnB.frozen {w : World} {B g n c : Nat} {xs : List Int} (h : OwnB w B (.slice (some ⟨g, 0, none⟩) n c) xs) (j : Nat) : w.frozen? ⟨g, j, none⟩ = false := by
  have hn : n = xs.length := by obtain ⟨a, c', he⟩ := h.form; injection he
  subst hn
  exact World.ownsRow.frozenAt h j
theorem grown_trans {a b c : World} {r : Option Nat} (h : a.grownBy b r) (k : b.grownBy c r) : a.grownBy c r :=
  ⟨k.os.trans h.os, k.tape.trans h.tape, k.output.trans h.output, Nat.le_trans h.size k.size, fun i hi hn => (k.block i (Nat.lt_of_lt_of_le hi h.size) hn).trans (h.block i hi hn)⟩
theorem grown_refl (a : World) (r : Option Nat) : a.grownBy a r := ⟨rfl, rfl, rfl, Nat.le_refl _, fun _ _ _ => rfl⟩

end Go.Proofs.YtefkklgelmbaiaaDoor
set_option linter.unusedSimpArgs false
set_option linter.unusedVariables false
namespace Go.Proofs.YtefkklgelmbaiaaDoor
open Go.RowKit Go.Proofs Go.Proofs.YtefkklgelmbaiaaDoorW.PrintWords Go.Proofs.YtefkklgelmbaiaaDoorW.PrintMore

theorem OwnB.toC {w : World} {B : Nat} {A : Option Addr} {n c : Nat} {xs : List Int} (h : OwnB w B (.slice A n c) xs) : n = xs.length ∧ xs.length ≤ c ∧ Kd.C (Kd.int .u8) w A xs.length xs := by
  have hR : Kd.R (Kd.int .u8) 5 w B (fun _ => True) (.slice A n c) xs := Kd.R_of_own h (fun _ _ => trivial)
  obtain ⟨A', c', he, hl, hC⟩ := Kd.R_reads hR
  injection he with e1 e2 e3
  subst e1; subst e2; subst e3
  exact ⟨rfl, hl, hC⟩
theorem gl6 {w : World} (h : Ok w) : w.cell? ⟨0, 0, none⟩ = some (.int .i64 0) ∧ w.cell? ⟨0, 1, none⟩ = some (.int .i64 1) ∧ w.cell? ⟨1, 0, none⟩ = some (.int .i64 1) ∧ w.cell? ⟨1, 1, none⟩ = some (.int .i64 4) ∧
    w.cell? ⟨2, 0, none⟩ = some (.int .i64 5) ∧ w.cell? ⟨2, 1, none⟩ = some (.int .i64 4) ∧ w.cell? ⟨3, 0, none⟩ = some (.int .i64 9) ∧ w.cell? ⟨3, 1, none⟩ = some (.int .i64 2) ∧
    w.cell? ⟨4, 0, none⟩ = some (.int .i64 11) ∧ w.cell? ⟨4, 1, none⟩ = some (.int .i64 8) ∧ w.cell? ⟨5, 0, none⟩ = some (.int .i64 19) ∧ w.cell? ⟨5, 1, none⟩ = some (.int .i64 4) :=
  ⟨World.var?_cell gFType h.fType 0, World.var?_cell gFType h.fType 1, World.var?_cell gFParent h.fParent 0, World.var?_cell gFParent h.fParent 1, World.var?_cell gFSize h.fSize 0, World.var?_cell gFSize h.fSize 1, World.var?_cell gFMode h.fMode 0, World.var?_cell gFMode h.fMode 1, World.var?_cell gFStamp h.fStamp 0, World.var?_cell gFStamp h.fStamp 1, World.var?_cell gFShadow h.fShadow 0, World.var?_cell gFShadow h.fShadow 1⟩

theorem own_ne {w : World} {B : Nat} {v : Value} {xs : List Int} (h : OwnB w B v xs) {g : Nat} {cs : Array Value} {t : TypeId} (hg : w.heap[g]? = some (.cells cs t (0, 0))) (ht : 5 ≠ t) : some g ≠ v.ownBlock := by
  rintro e
  rcases h.2 with ⟨rfl, _⟩ | ⟨g', cap, cur, rfl, _, hg', _⟩
  · cases e
  · injection e with e
    subst e
    rw [hg] at hg'
    injection hg' with h1
    injection h1 with _ h2
    exact ht h2.symm
theorem grown_blk' {w w' : World} {r : Option Nat} (q : w.grownBy w' r) {g : Nat} {o : Obj} (hg : w.heap[g]? = some o) (hr : some g ≠ r) : w'.heap[g]? = some o :=
  (q.block g (Array.getElem?_eq_some_iff.1 hg).1 hr).trans hg
theorem info_byte : ∃ i, Tryd.prog.info? 5 = some i ∧ i.zero = some (.int .u8 0) ∧ i.size = 1 ∧ i.bytes = 1 := by
  have : (Tryd.prog.info? 5).map (fun i => (i.zero, i.size, i.bytes)) = some (some (.int .u8 0), 1, 1) := by kernel_rfl
  obtain ⟨i, hi, he⟩ := Option.map_eq_some_iff.1 this
  injection he with e1 e2
  injection e2 with e2 e3
  exact ⟨i, hi, e1, e2, e3⟩
end Go.Proofs.YtefkklgelmbaiaaDoor
set_option linter.unusedSimpArgs false
set_option linter.unusedVariables false
namespace Go.Proofs.YtefkklgelmbaiaaDoor
open Go.RowKit Go.Proofs

/-- the writer lies at gw and holds the row v of the bytes xs -/
structure Wr (w : World) (B gw : Nat) (v : Value) (xs : List Int) : Prop where
  cell : w.heap[gw]? = some (.cells #[v] 62 (0, 0))
  own : OwnB w B v xs
  base : B ≤ gw
/-- all but the writer and its row is as it was -/
structure Wk (w w' : World) (gw : Nat) (v v' : Value) : Prop where
  os : w'.os = w.os
  tape : w'.tape = w.tape
  output : w'.output = w.output
  size : w.heap.size ≤ w'.heap.size
  block : ∀ k, k < w.heap.size → k ≠ gw → some k ≠ v.ownBlock → w'.heap[k]? = w.heap[k]?
  own : v'.ownBlock = v.ownBlock ∨ ∀ k, v'.ownBlock = some k → w.heap.size ≤ k
theorem Wk.refl (w : World) (gw : Nat) (v : Value) : Wk w w gw v v := ⟨rfl, rfl, rfl, Nat.le_refl _, fun _ _ _ _ => rfl, .inl rfl⟩
theorem Wk.trans {a b c : World} {gw : Nat} {u v x : Value} (h : Wk a b gw u v) (k : Wk b c gw v x) : Wk a c gw u x := by
  refine ⟨k.os.trans h.os, k.tape.trans h.tape, k.output.trans h.output, Nat.le_trans h.size k.size, fun j hj h1 h2 => ?_, ?_⟩
  · refine (k.block j (Nat.lt_of_lt_of_le hj h.size) h1 ?_).trans (h.block j hj h1 h2)
    rcases h.own with e | e
    · rw [e]; exact h2
    · intro e2; exact absurd (e j e2.symm) (by omega)
  · rcases k.own with e | e
    · rw [e]; exact h.own
    · exact .inr fun j hj => Nat.le_trans h.size (e j hj)
theorem Wr.drew {w : World} {B gw : Nat} {v : Value} {xs : List Int} (h : Wr w B gw v xs) : Wr w.drew B gw v xs := ⟨h.cell, h.own, h.base⟩
theorem OwnB.lt {w : World} {B : Nat} {v : Value} {xs : List Int} (h : OwnB w B v xs) {k : Nat} (hk : v.ownBlock = some k) : B ≤ k ∧ k < w.heap.size := World.ownsRow.lt h k hk
theorem Wr.fr {w w' : World} {B gw : Nat} {v v' : Value} {xs : List Int} (h : Wr w B gw v xs) {w0 : World} (f : Fr w0 w) (hw0 : Ok w0) (hB : w0.heap.size ≤ B) (q : Wk w w' gw v v') : Fr w0 w' := by
  refine Fr.of hw0 ⟨q.os.trans f.below.os, q.tape.trans f.below.tape, q.output.trans f.below.output, Nat.le_trans f.below.size q.size, fun k hk => ?_⟩
  refine (q.block k (Nat.lt_of_lt_of_le hk f.size) (by have := h.base; omega) ?_).trans (f.below.block k hk)
  intro e
  have := h.own.lt e.symm
  omega
theorem Wr.move {w w' : World} {B gw : Nat} {v : Value} {xs : List Int} (h : Wr w B gw v xs) (q : Fr w w') : Wr w' B gw v xs := ⟨q.heap h.cell, h.own.fr q, h.base⟩

theorem wpList_append_run {P : Program} {ops : Array Oper} {rest : List Oper} {o : Oper} {a : Act} {Q : Exit → Act → World → Prop} {w : World} (hgd : o.guard = none) (s x : Operand) (t1 t2 : TypeId)
    (ho : o.op = .call { callee := .builtin .append, args := #[s, x], argTypes := #[t1, t2] }) {v u v' : Value} {w' : World} (hs : a.eval s = v) (hx : a.eval x = u)
    (hr : (Builtin.append_ #[t1, t2] o.type #[v, u]).run P w = .ok v' w') (h : wpList P ops Q rest (a.put o.dst v') w') : wpList P ops Q (o :: rest) a w := by
  refine wpList_plain hgd fun K hK => ?_
  unfold Oper.wp execOp
  simp only [ho, resolve, invoke, builtin, Sem.run_bind, Sem.run_pure, Result.andThen_ok, List.map_toArray, List.map_cons, List.map_nil, hs, hx, hr]
  exact hK _ _ h

end Go.Proofs.YtefkklgelmbaiaaDoor
set_option linter.unusedSimpArgs false
set_option linter.unusedVariables false
namespace Go.Proofs.YtefkklgelmbaiaaDoor
open Go.RowKit Go.Proofs

theorem Wr.stored {w w1 : World} {B gw : Nat} {v v1 : Value} {xs ys : List Int} (hW : Wr w B gw v xs) (o1 : OwnB w1 B v1 ys) (g1 : w.grownBy w1 v.ownBlock) (b1 : v1.ownBlock = v.ownBlock ∨ v1.ownBlock = some w.heap.size) :
    w1.heap[gw]? = some (.cells #[v] 62 (0, 0)) ∧ Wr (w1.setCell ⟨gw, 0, none⟩ v1) B gw v1 ys ∧ Wk w (w1.setCell ⟨gw, 0, none⟩ v1) gw v v1 := by
  have hne := own_ne hW.own hW.cell (by decide)
  have H1 := grown_blk' g1 hW.cell hne
  have s2 : ∀ k, k ≠ gw → (w1.setCell ⟨gw, 0, none⟩ v1).heap[k]? = w1.heap[k]? := fun k hk => heap_setCell_other w1 ⟨gw, 0, none⟩ k _ (fun e => hk e)
  refine ⟨H1, ⟨?_, ?_, hW.base⟩, ⟨g1.os, g1.tape, g1.output, ?_, ?_, ?_⟩⟩
  · rw [heap_setCell_same w1 gw 0 _ 62 _ H1]
    rfl
  · refine ⟨o1.1, ?_⟩
    rcases o1.2 with h | ⟨g, cap, cur, he, hb, hg, r⟩
    · exact .inl h
    · refine .inr ⟨g, cap, cur, he, hb, ?_, r⟩
      rw [s2 g ?_]
      · exact hg
      · rintro rfl
        rw [H1] at hg
        injection hg with hg
        injection hg with _ e
        exact absurd e (by decide)
  · have z2 : (w1.setCell ⟨gw, 0, none⟩ v1).heap.size = w1.heap.size := by simp
    rw [z2]; exact g1.size
  · intro k hk h1 h2
    rw [s2 k h1]
    exact g1.block k hk h2
  · rcases b1 with e | e
    · exact .inl e
    · refine .inr fun k hk => ?_
      rw [e] at hk
      injection hk with hk
      omega
theorem blk13 {w : World} {g : Nat} {v0 v1 v2 v3 v4 v5 v6 v7 v8 v9 v10 v11 v12 : Value} {t : TypeId} {fz : Nat × Nat} (h : w.heap[g]? = some (.cells #[v0, v1, v2, v3, v4, v5, v6, v7, v8, v9, v10, v11, v12] t fz)) : w.cell? ⟨g, 0, none⟩ = some v0 ∧ w.cell? ⟨g, 1, none⟩ = some v1 ∧ w.cell? ⟨g, 2, none⟩ = some v2 ∧ w.cell? ⟨g, 3, none⟩ = some v3 ∧ w.cell? ⟨g, 4, none⟩ = some v4 ∧ w.cell? ⟨g, 5, none⟩ = some v5 ∧ w.cell? ⟨g, 6, none⟩ = some v6 ∧ w.cell? ⟨g, 7, none⟩ = some v7 ∧ w.cell? ⟨g, 8, none⟩ = some v8 ∧ w.cell? ⟨g, 9, none⟩ = some v9 ∧ w.cell? ⟨g, 10, none⟩ = some v10 ∧ w.cell? ⟨g, 11, none⟩ = some v11 ∧ w.cell? ⟨g, 12, none⟩ = some v12 :=
  ⟨blk_cell h rfl, blk_cell h rfl, blk_cell h rfl, blk_cell h rfl, blk_cell h rfl, blk_cell h rfl, blk_cell h rfl, blk_cell h rfl, blk_cell h rfl, blk_cell h rfl, blk_cell h rfl, blk_cell h rfl, blk_cell h rfl⟩

end Go.Proofs.YtefkklgelmbaiaaDoor
set_option linter.unusedSimpArgs false
set_option linter.unusedVariables false
namespace Go.Proofs.YtefkklgelmbaiaaDoor
open Go.RowKit Go.Proofs

theorem strEq (x y : ByteArray) : (x.toList == y.toList) = decide (x = y) := by
  rw [Lib.toList_data, Lib.toList_data, Bool.eq_iff_iff]
  simp only [beq_iff_eq, decide_eq_true_eq]
  constructor
  · intro h
    have : x.data = y.data := Array.ext' h
    cases x; cases y; simp only at this; rw [this]
  · intro h; rw [h]
theorem eqPlace (d : Nat) (w : World) (x0 y0 x1 y1 : Int) :
    (Op.equalIn (d + 2) 50 (.agg #[.int .i64 x0, .int .i64 x1]) (.agg #[.int .i64 y0, .int .i64 y1])).run Tryd.prog w = .ok (x0 == y0 && (x1 == y1 && true)) w := by
  refine eq_struct Tryd.underlying50 (by kernel_rfl) ?_
  refine eq_field (by decide) (by go_simp; rfl) (by go_simp; rfl) (by go_simp) ?_
  exact eq_field (by decide) (by go_simp; rfl) (by go_simp; rfl) (by go_simp) eq_done
def nodV (n : Nod) : Value := .agg #[.int .i64 n.ty, .int .i64 n.par, .string n.name, .int .i64 n.size, .int .i64 n.mode, .int .u64 n.stamp, .int .i64 n.shadow, .string n.tgt]
theorem eqNode (d : Nat) (w : World) (x y : Nod) :
    (Op.equalIn (d + 2) 48 (nodV x) (nodV y)).run Tryd.prog w = .ok (decide (x = y)) w := by
  have e : decide (x = y) = (x.ty == y.ty && (x.par == y.par && (decide (x.name = y.name) && (x.size == y.size && (x.mode == y.mode && (x.stamp == y.stamp && (x.shadow == y.shadow && (decide (x.tgt = y.tgt) && true)))))))) := by
    rw [Bool.eq_iff_iff]
    obtain ⟨_, _, _, _, _, _, _, _⟩ := x
    obtain ⟨_, _, _, _, _, _, _, _⟩ := y
    simp
  rw [e]
  unfold nodV
  refine eq_struct Tryd.underlying48 (by kernel_rfl) ?_
  refine eq_field (by decide) (by go_simp; rfl) (by go_simp; rfl) (by go_simp) ?_
  refine eq_field (by decide) (by go_simp; rfl) (by go_simp; rfl) (by go_simp) ?_
  refine eq_field (by decide) (by go_simp; rfl) (by go_simp; rfl) (by go_simp; exact strEq _ _) ?_
  refine eq_field (by decide) (by go_simp; rfl) (by go_simp; rfl) (by go_simp) ?_
  refine eq_field (by decide) (by go_simp; rfl) (by go_simp; rfl) (by go_simp) ?_
  refine eq_field (by decide) (by go_simp; rfl) (by go_simp; rfl) (by go_simp) ?_
  refine eq_field (by decide) (by go_simp; rfl) (by go_simp; rfl) (by go_simp) ?_
  exact eq_field (by decide) (by go_simp; rfl) (by go_simp; rfl) (by go_simp; exact strEq _ _) eq_done

theorem goodObject_goto (o : Obj') (h : o.id < 2 ∨ 1048575 < o.id ∨ (chunksB (-1) o.cs && decide ((o.cs.length : Int) ≤ 65536)) = false) : objB o = false := by
  unfold objB
  rw [Bool.eq_false_iff]
  simp only [ne_eq, Bool.and_eq_true, decide_eq_true_eq]
  rintro ⟨⟨⟨h1, h2, h3⟩, h4⟩, _⟩
  rcases h with h | h | h
  · omega
  · omega
  · rw [h4, Bool.true_and] at h
    have := of_decide_eq_false h
    omega
theorem goodObject_rest (o : Obj') (h1 : ¬ o.id < 2) (h2 : ¬ 1048575 < o.id) (h3 : (chunksB (-1) o.cs && decide ((o.cs.length : Int) ≤ 65536)) = true) : objB o = (if o.head then decide (checkL o.nd = 0 ∧ o.nd.shadow = 0) && placeB o.pb o.pp else decide (o.nd = Nod.zero ∧ o.pb = 0 ∧ o.pp = 0)) := by
  simp only [Bool.and_eq_true, decide_eq_true_eq] at h3
  unfold objB
  rw [h3.1, decide_eq_true (show 2 ≤ o.id ∧ o.id ≤ 1048575 ∧ o.cs.length ≤ 65536 by omega)]
  rfl

set_option maxHeartbeats 6400000 in
set_option maxRecDepth 100000 in
theorem goodObject_any (o : Obj') (A : Option Addr) (c : Nat) (w : World) (hw : Ok w) (hC : CRow w A o.cs) (hcl : o.cs.length ≤ c) (hn : o.cs.length ≤ 1099511627776) (hnd : o.nd.wf) (hnm : o.nd.name.size ≤ 1073741824) :
    Calls Tryd.prog 35 #[.agg #[.int .i64 o.id, .bool o.head, .int .i64 o.nd.ty, .int .i64 o.nd.par, .string o.nd.name, .int .i64 o.nd.size, .int .i64 o.nd.mode, .int .u64 o.nd.stamp, .int .i64 o.nd.shadow, .string o.nd.tgt, .int .i64 o.pb, .int .i64 o.pp, .slice A o.cs.length c]] w fun e w' => e = .returned (.bool (objB o)) ∧ Fr w w' := by
  have hF := goodObject_goto o
  have hT := goodObject_rest o
  obtain ⟨id, head, nd, pb, pp, cs⟩ := o
  dsimp only at hC hcl hn hnd hnm hF hT ⊢
  obtain ⟨w1, g, hg, hw1, f, hz1, H⟩ := boxedN hw #[.int .i64 id, .bool head, .int .i64 nd.ty, .int .i64 nd.par, .string nd.name, .int .i64 nd.size, .int .i64 nd.mode, .int .u64 nd.stamp, .int .i64 nd.shadow, .string nd.tgt, .int .i64 pb, .int .i64 pp, .slice A cs.length c] 53
  obtain ⟨c0, c1, c2, c3, c4, c5, c6, c7, c8, c9, c10, c11, c12⟩ := blk13 H
  by_cases h1 : id < 2
  · have HR := Lib.hid (hF (.inl h1))
    clear hF hT
    go_enter Tryd.func35, Tryd.ntmps35
    go_wp2_with (first
      | (go_at_call 49; refine (goodChunks_any A c cs _ f.ok (hC.fr f) hcl hn).mono ?_; rw [HG.out]; rintro e wx ⟨rfl, q⟩; replace H := q.heap H; replace f := f.trans q; clear q; obtain ⟨c0, c1, c2, c3, c4, c5, c6, c7, c8, c9, c10, c11, c12⟩ := blk13 H)
      | (go_at_call 50; refine (check_any nd hnd hnm _ f.ok).mono ?_; rw [HK.out]; rintro e wx ⟨rfl, q⟩; replace H := q.heap H; replace f := f.trans q; clear q; obtain ⟨c0, c1, c2, c3, c4, c5, c6, c7, c8, c9, c10, c11, c12⟩ := blk13 H)
      | (go_at_call 51; refine (goodPlace_any pb pp _ f.ok).mono ?_; rintro e wx ⟨rfl, q⟩; replace H := q.heap H; replace f := f.trans q; clear q; obtain ⟨c0, c1, c2, c3, c4, c5, c6, c7, c8, c9, c10, c11, c12⟩ := blk13 H))
    go_ret
    exact ⟨by rw [HR.out]; rfl, f⟩
  by_cases h2 : 1048575 < id
  · have HR := Lib.hid (hF (.inr (.inl h2)))
    clear hF hT
    go_enter Tryd.func35, Tryd.ntmps35
    go_wp2_with (first
      | (go_at_call 49; refine (goodChunks_any A c cs _ f.ok (hC.fr f) hcl hn).mono ?_; rw [HG.out]; rintro e wx ⟨rfl, q⟩; replace H := q.heap H; replace f := f.trans q; clear q; obtain ⟨c0, c1, c2, c3, c4, c5, c6, c7, c8, c9, c10, c11, c12⟩ := blk13 H)
      | (go_at_call 50; refine (check_any nd hnd hnm _ f.ok).mono ?_; rw [HK.out]; rintro e wx ⟨rfl, q⟩; replace H := q.heap H; replace f := f.trans q; clear q; obtain ⟨c0, c1, c2, c3, c4, c5, c6, c7, c8, c9, c10, c11, c12⟩ := blk13 H)
      | (go_at_call 51; refine (goodPlace_any pb pp _ f.ok).mono ?_; rintro e wx ⟨rfl, q⟩; replace H := q.heap H; replace f := f.trans q; clear q; obtain ⟨c0, c1, c2, c3, c4, c5, c6, c7, c8, c9, c10, c11, c12⟩ := blk13 H))
    go_ret
    exact ⟨by rw [HR.out]; rfl, f⟩
  cases hg : (chunksB (-1) cs && decide ((cs.length : Int) ≤ 65536)) with
  | false =>
    have HR := Lib.hid (hF (.inr (.inr hg)))
    have HG := Lib.hid hg
    clear hF hT hg
    go_enter Tryd.func35, Tryd.ntmps35
    go_wp2_with (first
      | (go_at_call 49; refine (goodChunks_any A c cs _ f.ok (hC.fr f) hcl hn).mono ?_; rw [HG.out]; rintro e wx ⟨rfl, q⟩; replace H := q.heap H; replace f := f.trans q; clear q; obtain ⟨c0, c1, c2, c3, c4, c5, c6, c7, c8, c9, c10, c11, c12⟩ := blk13 H)
      | (go_at_call 50; refine (check_any nd hnd hnm _ f.ok).mono ?_; rw [HK.out]; rintro e wx ⟨rfl, q⟩; replace H := q.heap H; replace f := f.trans q; clear q; obtain ⟨c0, c1, c2, c3, c4, c5, c6, c7, c8, c9, c10, c11, c12⟩ := blk13 H)
      | (go_at_call 51; refine (goodPlace_any pb pp _ f.ok).mono ?_; rintro e wx ⟨rfl, q⟩; replace H := q.heap H; replace f := f.trans q; clear q; obtain ⟨c0, c1, c2, c3, c4, c5, c6, c7, c8, c9, c10, c11, c12⟩ := blk13 H))
    go_ret
    exact ⟨by rw [HR.out]; rfl, f⟩
  | true =>
    have HT := Lib.hid (hT h1 h2 hg)
    have HG := Lib.hid hg
    clear hF hT hg
    cases head
    · have hE : ∀ W, (Op.equalIn 10000 48 (nodV nd) (nodV Nod.zero)).run Tryd.prog W = .ok (decide (nd = Nod.zero)) W := fun W => eqNode 9998 W nd Nod.zero
      have hE2 : ∀ W, (Op.equalIn 10000 50 (.agg #[.int .i64 pb, .int .i64 pp]) (.agg #[.int .i64 0, .int .i64 0])).run Tryd.prog W = .ok (pb == 0 && (pp == 0 && true)) W := fun W => eqPlace 9998 W pb 0 pp 0
      unfold nodV Nod.zero at hE
      cases hz : decide (nd = (⟨0, 0, ⟨#[]⟩, 0, 0, 0, 0, ⟨#[]⟩⟩ : Nod)) with
      | false =>
        have hz' : ¬ nd = Nod.zero := of_decide_eq_false hz
        have HR := Lib.hid (HT.out.trans (decide_eq_false (fun h => hz' h.1)))
        rw [hz] at hE
        clear hz hz' HT
        go_enter Tryd.func35, Tryd.ntmps35
        go_wp2_with (first
          | (go_at_call 49; refine (goodChunks_any A c cs _ f.ok (hC.fr f) hcl hn).mono ?_; rw [HG.out]; rintro e wx ⟨rfl, q⟩; replace H := q.heap H; replace f := f.trans q; clear q; obtain ⟨c0, c1, c2, c3, c4, c5, c6, c7, c8, c9, c10, c11, c12⟩ := blk13 H)
          | (go_at_call 50; refine (check_any nd hnd hnm _ f.ok).mono ?_; rw [HK.out]; rintro e wx ⟨rfl, q⟩; replace H := q.heap H; replace f := f.trans q; clear q; obtain ⟨c0, c1, c2, c3, c4, c5, c6, c7, c8, c9, c10, c11, c12⟩ := blk13 H)
          | (go_at_call 51; refine (goodPlace_any pb pp _ f.ok).mono ?_; rintro e wx ⟨rfl, q⟩; replace H := q.heap H; replace f := f.trans q; clear q; obtain ⟨c0, c1, c2, c3, c4, c5, c6, c7, c8, c9, c10, c11, c12⟩ := blk13 H))
        go_ret
        exact ⟨by rw [HR.out]; rfl, f⟩
      | true =>
        have hz' : nd = Nod.zero := of_decide_eq_true hz
        rw [hz] at hE
        cases hp : (pb == 0 && (pp == 0 && true)) with
        | false =>
          have HR := Lib.hid (HT.out.trans (decide_eq_false (fun h => by rw [h.2.1, h.2.2] at hp; cases hp)))
          rw [hp] at hE2
          clear hz hz' HT hp
          go_enter Tryd.func35, Tryd.ntmps35
          go_wp2_with (first
            | (go_at_call 49; refine (goodChunks_any A c cs _ f.ok (hC.fr f) hcl hn).mono ?_; rw [HG.out]; rintro e wx ⟨rfl, q⟩; replace H := q.heap H; replace f := f.trans q; clear q; obtain ⟨c0, c1, c2, c3, c4, c5, c6, c7, c8, c9, c10, c11, c12⟩ := blk13 H)
            | (go_at_call 50; refine (check_any nd hnd hnm _ f.ok).mono ?_; rw [HK.out]; rintro e wx ⟨rfl, q⟩; replace H := q.heap H; replace f := f.trans q; clear q; obtain ⟨c0, c1, c2, c3, c4, c5, c6, c7, c8, c9, c10, c11, c12⟩ := blk13 H)
            | (go_at_call 51; refine (goodPlace_any pb pp _ f.ok).mono ?_; rintro e wx ⟨rfl, q⟩; replace H := q.heap H; replace f := f.trans q; clear q; obtain ⟨c0, c1, c2, c3, c4, c5, c6, c7, c8, c9, c10, c11, c12⟩ := blk13 H))
          go_ret
          exact ⟨by rw [HR.out]; rfl, f⟩
        | true =>
          have hp' : pb = 0 ∧ pp = 0 := by simpa using hp
          have HR := Lib.hid (HT.out.trans (decide_eq_true ⟨hz', hp'.1, hp'.2⟩))
          rw [hp] at hE2
          clear hz hz' HT hp hp'
          go_enter Tryd.func35, Tryd.ntmps35
          go_wp2_with (first
            | (go_at_call 49; refine (goodChunks_any A c cs _ f.ok (hC.fr f) hcl hn).mono ?_; rw [HG.out]; rintro e wx ⟨rfl, q⟩; replace H := q.heap H; replace f := f.trans q; clear q; obtain ⟨c0, c1, c2, c3, c4, c5, c6, c7, c8, c9, c10, c11, c12⟩ := blk13 H)
            | (go_at_call 50; refine (check_any nd hnd hnm _ f.ok).mono ?_; rw [HK.out]; rintro e wx ⟨rfl, q⟩; replace H := q.heap H; replace f := f.trans q; clear q; obtain ⟨c0, c1, c2, c3, c4, c5, c6, c7, c8, c9, c10, c11, c12⟩ := blk13 H)
            | (go_at_call 51; refine (goodPlace_any pb pp _ f.ok).mono ?_; rintro e wx ⟨rfl, q⟩; replace H := q.heap H; replace f := f.trans q; clear q; obtain ⟨c0, c1, c2, c3, c4, c5, c6, c7, c8, c9, c10, c11, c12⟩ := blk13 H))
          go_ret
          exact ⟨by rw [HR.out]; rfl, f⟩
    · by_cases hk : checkL nd = 0
      case neg =>
        have HR := Lib.hid (HT.out.trans (show (decide (checkL nd = 0 ∧ nd.shadow = 0) && placeB pb pp) = false by rw [decide_eq_false (fun h => hk h.1)]; rfl))
        obtain ⟨k, hkk⟩ : ∃ k, checkL nd = k := ⟨_, rfl⟩
        have HK := Lib.hid hkk
        have hb : (k == 0) = false := by rw [← hkk]; simpa using hk
        clear HT hk hkk
        go_enter Tryd.func35, Tryd.ntmps35
        go_wp2_with (first
          | (go_at_call 49; refine (goodChunks_any A c cs _ f.ok (hC.fr f) hcl hn).mono ?_; rw [HG.out]; rintro e wx ⟨rfl, q⟩; replace H := q.heap H; replace f := f.trans q; clear q; obtain ⟨c0, c1, c2, c3, c4, c5, c6, c7, c8, c9, c10, c11, c12⟩ := blk13 H)
          | (go_at_call 50; refine (check_any nd hnd hnm _ f.ok).mono ?_; rw [HK.out]; rintro e wx ⟨rfl, q⟩; replace H := q.heap H; replace f := f.trans q; clear q; obtain ⟨c0, c1, c2, c3, c4, c5, c6, c7, c8, c9, c10, c11, c12⟩ := blk13 H)
          | (go_at_call 51; refine (goodPlace_any pb pp _ f.ok).mono ?_; rintro e wx ⟨rfl, q⟩; replace H := q.heap H; replace f := f.trans q; clear q; obtain ⟨c0, c1, c2, c3, c4, c5, c6, c7, c8, c9, c10, c11, c12⟩ := blk13 H))
        go_ret
        exact ⟨by rw [HR.out]; rfl, f⟩
      have HK := Lib.hid hk
      by_cases hs : nd.shadow = 0
      case neg =>
        have HR := Lib.hid (HT.out.trans (show (decide (checkL nd = 0 ∧ nd.shadow = 0) && placeB pb pp) = false by rw [decide_eq_false (fun h => hs h.2)]; rfl))
        have hb : (nd.shadow == 0) = false := by simpa using hs
        clear HT hk
        go_enter Tryd.func35, Tryd.ntmps35
        go_wp2_with (first
          | (go_at_call 49; refine (goodChunks_any A c cs _ f.ok (hC.fr f) hcl hn).mono ?_; rw [HG.out]; rintro e wx ⟨rfl, q⟩; replace H := q.heap H; replace f := f.trans q; clear q; obtain ⟨c0, c1, c2, c3, c4, c5, c6, c7, c8, c9, c10, c11, c12⟩ := blk13 H)
          | (go_at_call 50; refine (check_any nd hnd hnm _ f.ok).mono ?_; rw [HK.out]; rintro e wx ⟨rfl, q⟩; replace H := q.heap H; replace f := f.trans q; clear q; obtain ⟨c0, c1, c2, c3, c4, c5, c6, c7, c8, c9, c10, c11, c12⟩ := blk13 H)
          | (go_at_call 51; refine (goodPlace_any pb pp _ f.ok).mono ?_; rintro e wx ⟨rfl, q⟩; replace H := q.heap H; replace f := f.trans q; clear q; obtain ⟨c0, c1, c2, c3, c4, c5, c6, c7, c8, c9, c10, c11, c12⟩ := blk13 H))
        go_ret
        exact ⟨by rw [HR.out]; rfl, f⟩
      have HR := Lib.hid (HT.out.trans (show (decide (checkL nd = 0 ∧ nd.shadow = 0) && placeB pb pp) = placeB pb pp by rw [decide_eq_true ⟨hk, hs⟩]; rfl))
      have hb : (nd.shadow == 0) = true := by simpa using hs
      clear HT hk hs
      go_enter Tryd.func35, Tryd.ntmps35
      go_wp2_with (first
        | (go_at_call 49; refine (goodChunks_any A c cs _ f.ok (hC.fr f) hcl hn).mono ?_; rw [HG.out]; rintro e wx ⟨rfl, q⟩; replace H := q.heap H; replace f := f.trans q; clear q; obtain ⟨c0, c1, c2, c3, c4, c5, c6, c7, c8, c9, c10, c11, c12⟩ := blk13 H)
        | (go_at_call 50; refine (check_any nd hnd hnm _ f.ok).mono ?_; rw [HK.out]; rintro e wx ⟨rfl, q⟩; replace H := q.heap H; replace f := f.trans q; clear q; obtain ⟨c0, c1, c2, c3, c4, c5, c6, c7, c8, c9, c10, c11, c12⟩ := blk13 H)
        | (go_at_call 51; refine (goodPlace_any pb pp _ f.ok).mono ?_; rintro e wx ⟨rfl, q⟩; replace H := q.heap H; replace f := f.trans q; clear q; obtain ⟨c0, c1, c2, c3, c4, c5, c6, c7, c8, c9, c10, c11, c12⟩ := blk13 H))
      go_ret
      exact ⟨by rw [HR.out]; rfl, f⟩
end Go.Proofs.YtefkklgelmbaiaaDoor
set_option linter.unusedSimpArgs false
set_option linter.unusedVariables false
namespace Go.Proofs.YtefkklgelmbaiaaDoor
open Go.RowKit Go.Proofs

theorem drop_cons {α : Type} (l : List α) (i : Nat) (h : i < l.length) : l.drop i = l[i] :: l.drop (i + 1) := List.drop_eq_getElem_cons h
theorem may_goto (s : St) (h : ¬ (s.floor ≤ 281474976710655 ∧ s.next ≤ 281474976710656 ∧ (s.bs.length : Int) ≤ 4096 ∧ -1 ≤ s.cur ∧ s.cur < s.bs.length ∧ -1 ≤ s.last ∧ s.last < s.bs.length ∧ (s.os.length : Int) ≤ 1048575)) : mayB s = false := by
  unfold mayB
  rw [decide_eq_false h]
  rfl
theorem may_rest (s : St) (h : s.floor ≤ 281474976710655 ∧ s.next ≤ 281474976710656 ∧ (s.bs.length : Int) ≤ 4096 ∧ -1 ≤ s.cur ∧ s.cur < s.bs.length ∧ -1 ≤ s.last ∧ s.last < s.bs.length ∧ (s.os.length : Int) ≤ 1048575) : mayB s = ((s.bs.drop 0).all blockB && objsB 0 (s.os.drop 0)) := by
  unfold mayB
  rw [decide_eq_true h]
  rfl
theorem all_step {bs : List Blk} {r : Bool} {i : Nat} (h : i < bs.length) : ((bs.drop i).all blockB && r) = (blockB bs[i] && ((bs.drop (i + 1)).all blockB && r)) := by
  rw [drop_cons bs i h, List.all_cons, Bool.and_assoc]
theorem objs_step {os : List Obj'} {last : Int} {i : Nat} (h : i < os.length) : objsB last (os.drop i) = (decide (last < os[i].id) && objB os[i] && objsB os[i].id (os.drop (i + 1))) := by
  rw [drop_cons os i h]
  rfl

set_option maxHeartbeats 12800000 in
set_option maxRecDepth 100000 in
theorem good_any (s : St) (A1 : Option Addr) (c1 : Nat) (A2 : Option Addr) (c2 : Nat) (al : Al) (w : World) (hw : Ok w) (hB : BRow w A1 s.bs) (hO : ORow w A2 al s.os) (hwf : s.wf) (hnm : ∀ o ∈ s.os, o.nd.name.size ≤ 1073741824) :
    Calls Tryd.prog 19 #[.agg #[.int .u64 s.floor, .int .u64 s.next, .int .i64 s.cur, .int .i64 s.last, .slice A1 s.bs.length c1, .slice A2 s.os.length c2]] w fun e w' => e = .returned (.bool (mayB s)) ∧ Fr w w' := by
  have hF := may_goto s
  have hT := may_rest s
  obtain ⟨floor, next, cur, last, bs, os⟩ := s
  obtain ⟨_, _, _, _, _, hows, hbl, hol⟩ := hwf
  dsimp only at hB hO hows hbl hol hnm hF hT ⊢
  obtain ⟨w1, g, hg, hw1, f, hz1, H⟩ := boxedN hw #[.int .u64 floor, .int .u64 next, .int .i64 cur, .int .i64 last, .slice A1 bs.length c1, .slice A2 os.length c2] 26
  obtain ⟨x0, x1, x2, x3, x4, x5⟩ := blk6 H
  by_cases h1 : 281474976710655 < floor
  · have HR := Lib.hid (hF (by omega))
    clear hF hT
    go_enter Tryd.func19, Tryd.ntmps19
    go_wp2
    go_ret
    exact ⟨by rw [HR.out]; rfl, f⟩
  by_cases h2 : 281474976710656 < next
  · have HR := Lib.hid (hF (by omega))
    clear hF hT
    go_enter Tryd.func19, Tryd.ntmps19
    go_wp2
    go_ret
    exact ⟨by rw [HR.out]; rfl, f⟩
  by_cases h3 : (4096 : Int) < (bs.length : Int)
  · have HR := Lib.hid (hF (by omega))
    clear hF hT
    go_enter Tryd.func19, Tryd.ntmps19
    go_wp2
    go_ret
    exact ⟨by rw [HR.out]; rfl, f⟩
  by_cases h4 : (1048575 : Int) < (os.length : Int)
  · have HR := Lib.hid (hF (by omega))
    clear hF hT
    go_enter Tryd.func19, Tryd.ntmps19
    go_wp2
    go_ret
    exact ⟨by rw [HR.out]; rfl, f⟩
  by_cases h5 : cur < -1
  · have HR := Lib.hid (hF (by omega))
    clear hF hT
    go_enter Tryd.func19, Tryd.ntmps19
    go_wp2
    go_ret
    exact ⟨by rw [HR.out]; rfl, f⟩
  by_cases h6 : (bs.length : Int) ≤ cur
  · have HR := Lib.hid (hF (by omega))
    clear hF hT
    go_enter Tryd.func19, Tryd.ntmps19
    go_wp2
    go_ret
    exact ⟨by rw [HR.out]; rfl, f⟩
  by_cases h7 : last < -1
  · have HR := Lib.hid (hF (by omega))
    clear hF hT
    go_enter Tryd.func19, Tryd.ntmps19
    go_wp2
    go_ret
    exact ⟨by rw [HR.out]; rfl, f⟩
  by_cases h8 : (bs.length : Int) ≤ last
  · have HR := Lib.hid (hF (by omega))
    clear hF hT
    go_enter Tryd.func19, Tryd.ntmps19
    go_wp2
    go_ret
    exact ⟨by rw [HR.out]; rfl, f⟩
  have HR := Lib.hid (hT (by omega))
  clear hF hT
  go_enter Tryd.func19, Tryd.ntmps19
  go_wp2
  go_loopg [53] bs.length (fun k v53 wc => ∃ (i : Nat), v53 = .int .i64 (i : Int) ∧ k + i = bs.length ∧ Hid (mayB ⟨floor, next, cur, last, bs, os⟩ = ((bs.drop i).all blockB && objsB 0 (os.drop 0))) ∧ Hid (Fr w wc) ∧ Hid (wc.heap[g]? = some (.cells #[.int .u64 floor, .int .u64 next, .int .i64 cur, .int .i64 last, .slice A1 bs.length c1, .slice A2 os.length c2] 26 (0, 0))))
  case atStart => exact ⟨0, rfl, by omega, HR, Lib.hid f, Lib.hid H⟩
  case round =>
    clear HR f H x0 x1 x2 x3 x4 x5
    obtain ⟨i, rfl, hk, HR, HF, HH⟩ := hrel
    have f := HF.out
    have H := HH.out
    clear HF HH
    obtain ⟨x0, x1, x2, x3, x4, x5⟩ := blk6 H
    cases gk with
    | zero =>
      have d4 : decide ((i : Int) < (bs.length : Int)) = false := decide_eq_false (by omega)
      obtain rfl : i = bs.length := by omega
      replace HR : Hid (mayB ⟨floor, next, cur, last, bs, os⟩ = objsB 0 (os.drop 0)) := Lib.hid (by rw [HR.out, List.drop_length]; rfl)
      go_wp2
      go_loopg [64, 6] os.length (fun k v64 v6 wc => ∃ (i : Nat) (last' : Int), v64 = .int .i64 (i : Int) ∧ v6 = .int .i64 last' ∧ k + i = os.length ∧ Hid (mayB ⟨floor, next, cur, last, bs, os⟩ = objsB last' (os.drop i)) ∧ Hid (Fr w wc))
      case atStart => exact ⟨0, 0, rfl, rfl, by omega, HR, Lib.hid f⟩
      case round =>
        clear HR f H x0 x1 x2 x3 x4 x5
        obtain ⟨i, last', rfl, rfl, hk, HR, HF⟩ := hrel
        have f := HF.out
        clear HF
        cases gk with
        | zero =>
          have d5 : decide ((i : Int) < (os.length : Int)) = false := decide_eq_false (by omega)
          obtain rfl : i = os.length := by omega
          replace HR : Hid (mayB ⟨floor, next, cur, last, bs, os⟩ = true) := Lib.hid (by rw [HR.out, List.drop_length]; rfl)
          go_wp2
          go_ret
          exact ⟨by rw [HR.out]; rfl, f⟩
        | succ k =>
          have hi : i < os.length := by omega
          have d5 : decide ((i : Int) < (os.length : Int)) = true := decide_eq_true (by omega)
          obtain ⟨gO, oO, hA, y0, y1, y2, y3, y4, y5, y6, y7, y8, y9, y10, y11, y12, hCc, hcl⟩ := (hO.fr f).get hi
          have hmem := List.getElem_mem hi
          have hon := hnm _ hmem
          obtain ⟨_, hond, _, _, _, hocl⟩ := hows _ hmem
          replace HR := Lib.hid (HR.out.trans (objs_step hi))
          obtain ⟨ob, hob⟩ : ∃ ob, os[i] = ob := ⟨_, rfl⟩
          rw [hob] at y0 y1 y2 y3 y4 y5 y6 y7 y8 y9 y10 y11 y12 hCc hcl hon hond hocl HR
          clear hob hmem
          subst hA
          have HC := Lib.hid hCc
          have HN := Lib.hid hond
          clear hCc hond
          obtain ⟨w8, g8, hg8, hw8, f8, hz8, H8⟩ := boxedN f.ok #[.int .i64 ob.id, .bool ob.head, .int .i64 ob.nd.ty, .int .i64 ob.nd.par, .string ob.nd.name, .int .i64 ob.nd.size, .int .i64 ob.nd.mode, .int .u64 ob.nd.stamp, .int .i64 ob.nd.shadow, .string ob.nd.tgt, .int .i64 ob.pb, .int .i64 ob.pp, .slice (al i).1 ob.cs.length (al i).2] 53
          replace HC := Lib.hid (HC.out.fr f8)
          replace f := f.trans f8
          obtain ⟨e0, e1, e2, e3, e4, e5, e6, e7, e8, e9, e10, e11, e12⟩ := blk13 H8
          clear f8
          by_cases hlt : ob.id ≤ last'
          · have HR2 := Lib.hid (HR.out.trans (by rw [decide_eq_false (show ¬ last' < ob.id by omega)]; rfl : _ = false))
            clear HR
            go_wp2
            go_ret
            exact ⟨by rw [HR2.out]; rfl, f⟩
          · cases hgo : objB ob with
            | false =>
              have HR2 := Lib.hid (HR.out.trans (by rw [hgo, Bool.and_false]; rfl : _ = false))
              have HG := Lib.hid hgo
              clear HR hgo
              go_wp2_with (go_at_call 35; refine (goodObject_any ob (al i).1 (al i).2 _ f.ok HC.out hcl hocl HN.out hon).mono ?_; rw [HG.out]; rintro e wx ⟨rfl, q⟩; replace f := f.trans q; clear q)
              go_ret
              exact ⟨by rw [HR2.out]; rfl, f⟩
            | true =>
              have HR2 := Lib.hid (HR.out.trans (by rw [hgo, decide_eq_true (show last' < ob.id by omega)]; rfl : _ = objsB ob.id (os.drop (i + 1))))
              have HG := Lib.hid hgo
              clear HR hgo
              go_wp2_with (go_at_call 35; refine (goodObject_any ob (al i).1 (al i).2 _ f.ok HC.out hcl hocl HN.out hon).mono ?_; rw [HG.out]; rintro e wx ⟨rfl, q⟩; replace H8 := q.heap H8; replace f := f.trans q; clear q; obtain ⟨e0, e1, e2, e3, e4, e5, e6, e7, e8, e9, e10, e11, e12⟩ := blk13 H8)
              go_roundg k
              case measure => omega
              case rel => exact ⟨i + 1, ob.id, by simp, rfl, by omega, HR2, Lib.hid f⟩
    | succ k =>
      have hi : i < bs.length := by omega
      have d4 : decide ((i : Int) < (bs.length : Int)) = true := decide_eq_true (by omega)
      obtain ⟨gC, oC, hA, y0, y1, y2, y3⟩ := (hB.fr f).get hi
      replace HR := Lib.hid (HR.out.trans (all_step hi))
      obtain ⟨b, hb⟩ : ∃ b, bs[i] = b := ⟨_, rfl⟩
      rw [hb] at y0 y1 y2 y3 HR
      clear hb
      subst hA
      obtain ⟨w8, g8, hg8, hw8, f8, hz8, H8⟩ := boxedN f.ok #[.int .i64 b.st, .int .u64 b.hd, .bool b.real, .int .i64 b.live] 45
      replace H := f8.heap H
      replace f := f.trans f8
      obtain ⟨e0, e1, e2, e3⟩ := blk4 H8
      clear f8 x0 x1 x2 x3 x4 x5
      cases hgo : blockB b with
      | false =>
        have HR2 := Lib.hid (HR.out.trans (by rw [hgo]; rfl : _ = false))
        have HG := Lib.hid hgo
        clear HR hgo
        go_wp2_with (go_at_call 34; refine (goodBlock_any b _ f.ok).mono ?_; rw [HG.out]; rintro e wx ⟨rfl, q⟩; replace f := f.trans q; clear q)
        go_ret
        exact ⟨by rw [HR2.out]; rfl, f⟩
      | true =>
        have HR2 := Lib.hid (HR.out.trans (by rw [hgo, Bool.true_and] : _ = ((bs.drop (i + 1)).all blockB && objsB 0 (os.drop 0))))
        have HG := Lib.hid hgo
        clear HR hgo
        go_wp2_with (go_at_call 34; refine (goodBlock_any b _ f.ok).mono ?_; rw [HG.out]; rintro e wx ⟨rfl, q⟩; replace H := q.heap H; replace f := f.trans q; clear q)
        go_roundg k
        case measure => omega
        case rel => exact ⟨i + 1, by simp, by omega, HR2, Lib.hid f, Lib.hid H⟩
end Go.Proofs.YtefkklgelmbaiaaDoor
