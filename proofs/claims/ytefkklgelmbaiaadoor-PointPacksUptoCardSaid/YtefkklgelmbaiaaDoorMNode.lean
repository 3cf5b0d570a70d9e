/- node.text, words.Join of three, node.Pack by their contracts. -/
import Derived.Test.YtefkklgelmbaiaaDoorMAny
/- node: Name, in, Check, text, Pack (the program's headers): what they answer. -/
set_option linter.unusedSimpArgs false
set_option linter.unusedVariables false
namespace Go.Proofs.YtefkklgelmbaiaaDoor
open Go.RowKit Go.Proofs

theorem indexAny_noneOf : ∀ l : List UInt8, decide (0 ≤ Lib.indexAny l [47, 0]) = !noneOf l
  | [] => rfl
  | b :: l => by
    have ih := indexAny_noneOf l
    have hge := Lib.indexAny_ge [47, 0] l
    unfold Lib.indexAny noneOf
    rw [List.all_cons]
    by_cases hb : b = 47 ∨ b = 0
    · have h1 : ([47, 0] : List UInt8).contains b = true := by rcases hb with rfl | rfl <;> rfl
      rw [h1, if_pos rfl]
      rcases hb with rfl | rfl <;> simp
    · have h1 : ([47, 0] : List UInt8).contains b = false := by simp; exact not_or.1 hb
      have h2 : (b != 0 && b != 47) = true := by simp; exact ⟨fun e => hb (.inr e), fun e => hb (.inl e)⟩
      rw [h1, if_neg (by simp), h2, Bool.true_and]
      unfold noneOf at ih
      rw [← ih]
      by_cases hm : Lib.indexAny l [47, 0] = -1
      · rw [hm]; rfl
      · rw [if_neg (by simpa using hm), decide_eq_true (by omega), decide_eq_true (by omega)]

theorem zero256 (w : World) : (zeroValue 118).run Tryd.prog w = .ok (.agg (Array.replicate 256 (.bool false))) w := by kernel_rfl
theorem indexAny_any (s : ByteArray) (hs : s.size ≤ 1073741824) (w : World) (hw : Ok w) : Calls Tryd.prog 65 #[.string s, .string ⟨#[47, 0]⟩] w fun e w' => (∃ i : Int, e = .returned (.int .i64 i) ∧ decide (0 ≤ i) = !noneOf s.data.toList) ∧ Fr w w' := by
  by_cases h8 : s.size ≤ 8
  · exact indexAny_short s h8 w hw
  · refine (Tryd.strings_IndexAny_long zero256 s ⟨#[47, 0]⟩ w (by decide) (by omega) (by omega) (by decide) (fun j b hb => ?_)).mono ?_
    · have : b ∈ ([47, 0] : List UInt8) := List.mem_of_getElem? hb
      simp at this
      rcases this with rfl | rfl <;> decide
    · rintro e w' ⟨rfl, rfl⟩
      exact ⟨⟨_, rfl, indexAny_noneOf _⟩, ((Fr.refl hw).alloc _).alloc _⟩

set_option maxRecDepth 100000 in
theorem containsAny_any (s : ByteArray) (hs : s.size ≤ 1073741824) (w : World) (hw : Ok w) : Calls Tryd.prog 63 #[.string s, .string ⟨#[47, 0]⟩] w fun e w' => e = .returned (.bool (!noneOf s.data.toList)) ∧ Fr w w' := by
  have f := Fr.refl hw
  go_enter Tryd.func63, Tryd.ntmps63
  go_wp2_with (go_at_call 65; refine (indexAny_any s hs _ f.ok).mono ?_; rintro e wx ⟨⟨i, rfl, hi⟩, q⟩; replace f := f.trans q; clear q; have HI := Lib.hid hi; clear hi)
  go_ret
  exact ⟨by rw [← HI.out]; rfl, f⟩

set_option maxHeartbeats 1600000 in
set_option maxRecDepth 100000 in
theorem name_any (s : ByteArray) (hs : s.size ≤ 1073741824) (w : World) (hw : Ok w) : Calls Tryd.prog 61 #[.string s] w fun e w' => e = .returned (.int .i64 (nameL s)) ∧ Fr w w' := by
  have f := Fr.refl hw
  have htl := Lib.toList_data s
  have hno : (¬ (1 ≤ s.size ∧ s.size ≤ 63 ∧ s.data.toList ≠ [46] ∧ s.data.toList ≠ [46, 46] ∧ noneOf s.data.toList = true)) → Hid (nameL s = 81) := fun h => Lib.hid (if_neg h)
  have HNO := Lib.hid hno
  clear hno
  have hemp : s.toList.isEmpty = decide (s.size = 0) := by
    rw [htl, Bool.eq_iff_iff]
    simp only [List.isEmpty_iff, decide_eq_true_eq]
    constructor
    · intro h; have := congrArg List.length h; rw [Array.length_toList] at this; exact this
    · intro h; exact List.eq_nil_of_length_eq_zero (by rw [Array.length_toList]; exact h)
  by_cases h0 : s.size = 0
  · have he : s.toList.isEmpty = true := by rw [hemp]; exact decide_eq_true h0
    have HR := HNO.out (fun h => by omega)
    clear hemp htl h0
    go_enter Tryd.func61, Tryd.ntmps61
    go_wp2_with fail
    go_ret
    exact ⟨by rw [HR.out]; rfl, f⟩
  have he : s.toList.isEmpty = false := by rw [hemp]; exact decide_eq_false h0
  clear hemp
  by_cases h1 : (63 : Int) < (s.size : Int)
  · have HR := HNO.out (fun h => by omega)
    clear htl h0
    go_enter Tryd.func61, Tryd.ntmps61
    go_wp2_with fail
    go_ret
    exact ⟨by rw [HR.out]; rfl, f⟩
  by_cases h2 : s.data.toList = [46]
  · have HR := HNO.out (fun h => h.2.2.1 h2)
    have hb : (s.toList == [46]) = true := by rw [htl, h2]; rfl
    clear htl h0 h2
    go_enter Tryd.func61, Tryd.ntmps61
    go_wp2_with fail
    go_ret
    exact ⟨by rw [HR.out]; rfl, f⟩
  have hb2 : (s.toList == [46]) = false := by rw [htl]; simpa using h2
  by_cases h3 : s.data.toList = [46, 46]
  · have HR := HNO.out (fun h => h.2.2.2.1 h3)
    have hb : (s.toList == [46, 46]) = true := by rw [htl, h3]; rfl
    clear htl h0 h2 h3
    go_enter Tryd.func61, Tryd.ntmps61
    go_wp2_with fail
    go_ret
    exact ⟨by rw [HR.out]; rfl, f⟩
  have hb3 : (s.toList == [46, 46]) = false := by rw [htl]; simpa using h3
  cases hn : noneOf s.data.toList with
  | false =>
    have HR := HNO.out (fun h => by rw [hn] at h; exact absurd h.2.2.2.2 (by simp))
    have HN := Lib.hid hn
    clear htl h0 h2 h3 hn
    go_enter Tryd.func61, Tryd.ntmps61
    go_wp2_with (go_at_call 63; refine (containsAny_any s hs _ f.ok).mono ?_; rw [HN.out]; rintro e wx ⟨rfl, q⟩; replace f := f.trans q; clear q)
    go_ret
    exact ⟨by rw [HR.out]; rfl, f⟩
  | true =>
    have HR : Hid (nameL s = 0) := Lib.hid (if_pos ⟨by omega, by omega, h2, h3, hn⟩)
    have HN := Lib.hid hn
    clear htl h0 h2 h3 hn
    go_enter Tryd.func61, Tryd.ntmps61
    go_wp2_with (go_at_call 63; refine (containsAny_any s hs _ f.ok).mono ?_; rw [HN.out]; rintro e wx ⟨rfl, q⟩; replace f := f.trans q; clear q)
    go_ret
    exact ⟨by rw [HR.out]; rfl, f⟩

def inB (lo n hi : Int) : Bool := decide (lo ≤ n ∧ n ≤ hi)
theorem inB_t {lo n hi : Int} (h : lo ≤ n ∧ n ≤ hi) : inB lo n hi = true := decide_eq_true h
theorem inB_f {lo n hi : Int} (h : ¬ (lo ≤ n ∧ n ≤ hi)) : inB lo n hi = false := decide_eq_false h
theorem in_any (n lo hi : Int) (w : World) : Calls Tryd.prog 60 #[.int .i64 n, .int .i64 lo, .int .i64 hi] w fun e w' => e = .returned (.bool (inB lo n hi)) ∧ w = w' := by
  by_cases h1 : lo ≤ n
  · by_cases h2 : n ≤ hi
    · have HD := Lib.hid (inB_t ⟨h1, h2⟩)
      go_enter Tryd.func60, Tryd.ntmps60
      go_wp2
      go_ret
      exact ⟨by rw [HD.out]; rfl, rfl⟩
    · have HD := Lib.hid (inB_f (lo := lo) (fun h => h2 h.2))
      go_enter Tryd.func60, Tryd.ntmps60
      go_wp2
      go_ret
      exact ⟨by rw [HD.out]; rfl, rfl⟩
  · have HD := Lib.hid (inB_f (hi := hi) (fun h => h1 h.1))
    go_enter Tryd.func60, Tryd.ntmps60
    go_wp2
    go_ret
    exact ⟨by rw [HD.out]; rfl, rfl⟩

theorem noZero_index (l : List UInt8) : decide (0 ≤ Lib.indexByte l 0) = !noZero l := by
  induction l with
  | nil => rfl
  | cons c l ih =>
    unfold Lib.indexByte noZero
    rw [List.all_cons]
    by_cases h : c = 0
    · subst h; simp
    · have h1 : (c == 0) = false := by simpa using h
      have h2 : (c != 0) = true := by simpa using h
      rw [h1, h2, Bool.true_and]
      unfold noZero at ih
      rw [← ih]
      have hge := Lib.indexByte_ge l 0
      by_cases hm : Lib.indexByte l 0 = -1
      · rw [hm]; rfl
      · simp [hm]
        constructor <;> intro <;> omega

end Go.Proofs.YtefkklgelmbaiaaDoor
/- node.Check: what it answers. -/
set_option linter.unusedSimpArgs false
set_option linter.unusedVariables false
namespace Go.Proofs.YtefkklgelmbaiaaDoor
open Go.RowKit Go.Proofs

theorem nameL_or (s : ByteArray) : nameL s = 0 ∨ nameL s = 81 := by
  unfold nameL
  split
  · exact .inl rfl
  · exact .inr rfl

set_option maxHeartbeats 6400000 in
set_option maxRecDepth 100000 in
theorem check_any (n : Nod) (h : n.wf) (hnm : n.name.size ≤ 1073741824) (w : World) (hw : Ok w) :
    Calls Tryd.prog 50 #[.agg #[.int .i64 n.ty, .int .i64 n.par, .string n.name, .int .i64 n.size, .int .i64 n.mode, .int .u64 n.stamp, .int .i64 n.shadow, .string n.tgt]] w fun e w' => e = .returned (.int .i64 (checkL n)) ∧ Fr w w' := by
  obtain ⟨ty, par, nm, size, mode, stamp, shadow, tg⟩ := n
  have htg : tg.size ≤ 1099511627776 := h.2.2.2.2.2.2.2
  clear h
  dsimp only at hnm ⊢
  have HC : Hid (checkL ⟨ty, par, nm, size, mode, stamp, shadow, tg⟩ = _) := Lib.hid (by unfold checkL; dsimp only)
  by_cases h1 : 1 ≤ ty ∧ ty ≤ 3
  case neg =>
    have F1 := Lib.hid (inB_f h1)
    have HR := Lib.hid (HC.out.trans (if_pos (by omega)))
    clear HC h1
    obtain ⟨w1, g, hg, hw1, f, hz1, H⟩ := boxedN hw #[.int .i64 ty, .int .i64 par, .string nm, .int .i64 size, .int .i64 mode, .int .u64 stamp, .int .i64 shadow, .string tg] 48
    obtain ⟨c0, c1, c2, c3, c4, c5, c6, c7⟩ := blk8 H
    clear H
    go_enter Tryd.func50, Tryd.ntmps50
    go_wp2_with (first
      | (go_at_call 60; refine (in_any _ _ _ _).mono ?_; rintro e wx ⟨rfl, rfl⟩; (try rw [F1.out]); (try rw [F2.out]); (try rw [F5.out]); (try rw [F6.out]); (try rw [F7.out]); (try rw [F8.out]))
      | (go_at_call 61; refine (name_any nm hnm _ f.ok).mono ?_; rw [F3.out]; rintro e wx ⟨rfl, q⟩; replace c0 := q.cell c0; replace c1 := q.cell c1; replace c2 := q.cell c2; replace c3 := q.cell c3; replace c4 := q.cell c4; replace c5 := q.cell c5; replace c6 := q.cell c6; replace c7 := q.cell c7; replace f := f.trans q; clear q)
      | (go_at_call 62; refine (Tryd.strings_Contains_one tg 0 _).mono ?_; rw [F9.out]; rintro e wx ⟨rfl, rfl⟩))
    go_ret
    exact ⟨by rw [HR.out]; rfl, f⟩
  have F1 := Lib.hid (inB_t h1)
  by_cases h2 : 0 ≤ par ∧ par ≤ 1048575
  case neg =>
    have F2 := Lib.hid (inB_f h2)
    have HR := Lib.hid (HC.out.trans (if_pos (by omega)))
    clear HC h1 h2
    obtain ⟨w1, g, hg, hw1, f, hz1, H⟩ := boxedN hw #[.int .i64 ty, .int .i64 par, .string nm, .int .i64 size, .int .i64 mode, .int .u64 stamp, .int .i64 shadow, .string tg] 48
    obtain ⟨c0, c1, c2, c3, c4, c5, c6, c7⟩ := blk8 H
    clear H
    go_enter Tryd.func50, Tryd.ntmps50
    go_wp2_with (first
      | (go_at_call 60; refine (in_any _ _ _ _).mono ?_; rintro e wx ⟨rfl, rfl⟩; (try rw [F1.out]); (try rw [F2.out]); (try rw [F5.out]); (try rw [F6.out]); (try rw [F7.out]); (try rw [F8.out]))
      | (go_at_call 61; refine (name_any nm hnm _ f.ok).mono ?_; rw [F3.out]; rintro e wx ⟨rfl, q⟩; replace c0 := q.cell c0; replace c1 := q.cell c1; replace c2 := q.cell c2; replace c3 := q.cell c3; replace c4 := q.cell c4; replace c5 := q.cell c5; replace c6 := q.cell c6; replace c7 := q.cell c7; replace f := f.trans q; clear q)
      | (go_at_call 62; refine (Tryd.strings_Contains_one tg 0 _).mono ?_; rw [F9.out]; rintro e wx ⟨rfl, rfl⟩))
    go_ret
    exact ⟨by rw [HR.out]; rfl, f⟩
  have F2 := Lib.hid (inB_t h2)
  have HC1 := Lib.hid (HC.out.trans (if_neg (by omega)))
  clear HC
  rcases nameL_or nm with h3 | h3
  case inr =>
    have F3 := Lib.hid h3
    have HR := Lib.hid (HC1.out.trans (if_pos (by rw [h3]; decide)))
    clear HC1 h1 h2 h3
    obtain ⟨w1, g, hg, hw1, f, hz1, H⟩ := boxedN hw #[.int .i64 ty, .int .i64 par, .string nm, .int .i64 size, .int .i64 mode, .int .u64 stamp, .int .i64 shadow, .string tg] 48
    obtain ⟨c0, c1, c2, c3, c4, c5, c6, c7⟩ := blk8 H
    clear H
    go_enter Tryd.func50, Tryd.ntmps50
    go_wp2_with (first
      | (go_at_call 60; refine (in_any _ _ _ _).mono ?_; rintro e wx ⟨rfl, rfl⟩; (try rw [F1.out]); (try rw [F2.out]); (try rw [F5.out]); (try rw [F6.out]); (try rw [F7.out]); (try rw [F8.out]))
      | (go_at_call 61; refine (name_any nm hnm _ f.ok).mono ?_; rw [F3.out]; rintro e wx ⟨rfl, q⟩; replace c0 := q.cell c0; replace c1 := q.cell c1; replace c2 := q.cell c2; replace c3 := q.cell c3; replace c4 := q.cell c4; replace c5 := q.cell c5; replace c6 := q.cell c6; replace c7 := q.cell c7; replace f := f.trans q; clear q)
      | (go_at_call 62; refine (Tryd.strings_Contains_one tg 0 _).mono ?_; rw [F9.out]; rintro e wx ⟨rfl, rfl⟩))
    go_ret
    exact ⟨by rw [HR.out]; rfl, f⟩
  have F3 := Lib.hid h3
  have HC2 := Lib.hid (HC1.out.trans (if_neg (by rw [h3]; decide)))
  clear HC1 h3 h2
  have be : (ty = 1 ∧ (ty == 1) = true) ∨ (ty ≠ 1 ∧ (ty == 1) = false) := by
    by_cases h : ty = 1
    · exact .inl ⟨h, by simpa using h⟩
    · exact .inr ⟨h, by simpa using h⟩
  obtain ⟨lim, hlim, e1⟩ : ∃ lim : Int, (ty = 1 ∧ lim = 2147483648 ∨ ty ≠ 1 ∧ lim = 0) ∧ ((ty == 1) = true ∧ lim = 2147483648 ∨ (ty == 1) = false ∧ lim = 0) := by
    rcases be with ⟨a, b⟩ | ⟨a, b⟩
    · exact ⟨2147483648, .inl ⟨a, rfl⟩, .inl ⟨b, rfl⟩⟩
    · exact ⟨0, .inr ⟨a, rfl⟩, .inr ⟨b, rfl⟩⟩
  clear be
  by_cases h5 : 0 ≤ size ∧ size ≤ lim
  case neg =>
    have F5 := Lib.hid (inB_f h5)
    have HR := Lib.hid (HC2.out.trans (if_pos (by omega)))
    clear HC2 h1 h5 hlim
    rcases e1 with ⟨e1, rfl⟩ | ⟨e1, rfl⟩
    · obtain ⟨w1, g, hg, hw1, f, hz1, H⟩ := boxedN hw #[.int .i64 ty, .int .i64 par, .string nm, .int .i64 size, .int .i64 mode, .int .u64 stamp, .int .i64 shadow, .string tg] 48
      obtain ⟨c0, c1, c2, c3, c4, c5, c6, c7⟩ := blk8 H
      clear H
      go_enter Tryd.func50, Tryd.ntmps50
      go_wp2_with (first
        | (go_at_call 60; refine (in_any _ _ _ _).mono ?_; rintro e wx ⟨rfl, rfl⟩; (try rw [F1.out]); (try rw [F2.out]); (try rw [F5.out]); (try rw [F6.out]); (try rw [F7.out]); (try rw [F8.out]))
        | (go_at_call 61; refine (name_any nm hnm _ f.ok).mono ?_; rw [F3.out]; rintro e wx ⟨rfl, q⟩; replace c0 := q.cell c0; replace c1 := q.cell c1; replace c2 := q.cell c2; replace c3 := q.cell c3; replace c4 := q.cell c4; replace c5 := q.cell c5; replace c6 := q.cell c6; replace c7 := q.cell c7; replace f := f.trans q; clear q)
        | (go_at_call 62; refine (Tryd.strings_Contains_one tg 0 _).mono ?_; rw [F9.out]; rintro e wx ⟨rfl, rfl⟩))
      go_ret
      exact ⟨by rw [HR.out]; rfl, f⟩
    · obtain ⟨w1, g, hg, hw1, f, hz1, H⟩ := boxedN hw #[.int .i64 ty, .int .i64 par, .string nm, .int .i64 size, .int .i64 mode, .int .u64 stamp, .int .i64 shadow, .string tg] 48
      obtain ⟨c0, c1, c2, c3, c4, c5, c6, c7⟩ := blk8 H
      clear H
      go_enter Tryd.func50, Tryd.ntmps50
      go_wp2_with (first
        | (go_at_call 60; refine (in_any _ _ _ _).mono ?_; rintro e wx ⟨rfl, rfl⟩; (try rw [F1.out]); (try rw [F2.out]); (try rw [F5.out]); (try rw [F6.out]); (try rw [F7.out]); (try rw [F8.out]))
        | (go_at_call 61; refine (name_any nm hnm _ f.ok).mono ?_; rw [F3.out]; rintro e wx ⟨rfl, q⟩; replace c0 := q.cell c0; replace c1 := q.cell c1; replace c2 := q.cell c2; replace c3 := q.cell c3; replace c4 := q.cell c4; replace c5 := q.cell c5; replace c6 := q.cell c6; replace c7 := q.cell c7; replace f := f.trans q; clear q)
        | (go_at_call 62; refine (Tryd.strings_Contains_one tg 0 _).mono ?_; rw [F9.out]; rintro e wx ⟨rfl, rfl⟩))
      go_ret
      exact ⟨by rw [HR.out]; rfl, f⟩
  have F5 := Lib.hid (inB_t h5)
  by_cases h6 : 0 ≤ mode ∧ mode ≤ 4095
  case neg =>
    have F6 := Lib.hid (inB_f h6)
    have HR := Lib.hid (HC2.out.trans (if_pos (by omega)))
    clear HC2 h1 h5 h6 hlim
    rcases e1 with ⟨e1, rfl⟩ | ⟨e1, rfl⟩
    · obtain ⟨w1, g, hg, hw1, f, hz1, H⟩ := boxedN hw #[.int .i64 ty, .int .i64 par, .string nm, .int .i64 size, .int .i64 mode, .int .u64 stamp, .int .i64 shadow, .string tg] 48
      obtain ⟨c0, c1, c2, c3, c4, c5, c6, c7⟩ := blk8 H
      clear H
      go_enter Tryd.func50, Tryd.ntmps50
      go_wp2_with (first
        | (go_at_call 60; refine (in_any _ _ _ _).mono ?_; rintro e wx ⟨rfl, rfl⟩; (try rw [F1.out]); (try rw [F2.out]); (try rw [F5.out]); (try rw [F6.out]); (try rw [F7.out]); (try rw [F8.out]))
        | (go_at_call 61; refine (name_any nm hnm _ f.ok).mono ?_; rw [F3.out]; rintro e wx ⟨rfl, q⟩; replace c0 := q.cell c0; replace c1 := q.cell c1; replace c2 := q.cell c2; replace c3 := q.cell c3; replace c4 := q.cell c4; replace c5 := q.cell c5; replace c6 := q.cell c6; replace c7 := q.cell c7; replace f := f.trans q; clear q)
        | (go_at_call 62; refine (Tryd.strings_Contains_one tg 0 _).mono ?_; rw [F9.out]; rintro e wx ⟨rfl, rfl⟩))
      go_ret
      exact ⟨by rw [HR.out]; rfl, f⟩
    · obtain ⟨w1, g, hg, hw1, f, hz1, H⟩ := boxedN hw #[.int .i64 ty, .int .i64 par, .string nm, .int .i64 size, .int .i64 mode, .int .u64 stamp, .int .i64 shadow, .string tg] 48
      obtain ⟨c0, c1, c2, c3, c4, c5, c6, c7⟩ := blk8 H
      clear H
      go_enter Tryd.func50, Tryd.ntmps50
      go_wp2_with (first
        | (go_at_call 60; refine (in_any _ _ _ _).mono ?_; rintro e wx ⟨rfl, rfl⟩; (try rw [F1.out]); (try rw [F2.out]); (try rw [F5.out]); (try rw [F6.out]); (try rw [F7.out]); (try rw [F8.out]))
        | (go_at_call 61; refine (name_any nm hnm _ f.ok).mono ?_; rw [F3.out]; rintro e wx ⟨rfl, q⟩; replace c0 := q.cell c0; replace c1 := q.cell c1; replace c2 := q.cell c2; replace c3 := q.cell c3; replace c4 := q.cell c4; replace c5 := q.cell c5; replace c6 := q.cell c6; replace c7 := q.cell c7; replace f := f.trans q; clear q)
        | (go_at_call 62; refine (Tryd.strings_Contains_one tg 0 _).mono ?_; rw [F9.out]; rintro e wx ⟨rfl, rfl⟩))
      go_ret
      exact ⟨by rw [HR.out]; rfl, f⟩
  have F6 := Lib.hid (inB_t h6)
  have hs : (shadow = 0 ∧ (shadow == 0) = true) ∨ (shadow ≠ 0 ∧ (shadow == 0) = false) := by
    by_cases h : shadow = 0
    · exact .inl ⟨h, by simpa using h⟩
    · exact .inr ⟨h, by simpa using h⟩
  by_cases h7 : shadow = 0 ∨ (2 ≤ shadow ∧ shadow ≤ 1048575)
  case neg =>
    have F7 := Lib.hid (inB_f (lo := 2) (n := shadow) (hi := 1048575) (by omega))
    have HR := Lib.hid (HC2.out.trans (if_pos (by omega)))
    have s1 : ¬ shadow = 0 := fun h => h7 (.inl h)
    have s0 : (shadow != 0) = true := by simpa using s1
    clear HC2 h1 h5 h6 hlim h7 hs
    rcases e1 with ⟨e1, rfl⟩ | ⟨e1, rfl⟩
    · obtain ⟨w1, g, hg, hw1, f, hz1, H⟩ := boxedN hw #[.int .i64 ty, .int .i64 par, .string nm, .int .i64 size, .int .i64 mode, .int .u64 stamp, .int .i64 shadow, .string tg] 48
      obtain ⟨c0, c1, c2, c3, c4, c5, c6, c7⟩ := blk8 H
      clear H
      go_enter Tryd.func50, Tryd.ntmps50
      go_wp2_with (first
        | (go_at_call 60; refine (in_any _ _ _ _).mono ?_; rintro e wx ⟨rfl, rfl⟩; (try rw [F1.out]); (try rw [F2.out]); (try rw [F5.out]); (try rw [F6.out]); (try rw [F7.out]); (try rw [F8.out]))
        | (go_at_call 61; refine (name_any nm hnm _ f.ok).mono ?_; rw [F3.out]; rintro e wx ⟨rfl, q⟩; replace c0 := q.cell c0; replace c1 := q.cell c1; replace c2 := q.cell c2; replace c3 := q.cell c3; replace c4 := q.cell c4; replace c5 := q.cell c5; replace c6 := q.cell c6; replace c7 := q.cell c7; replace f := f.trans q; clear q)
        | (go_at_call 62; refine (Tryd.strings_Contains_one tg 0 _).mono ?_; rw [F9.out]; rintro e wx ⟨rfl, rfl⟩))
      go_ret
      exact ⟨by rw [HR.out]; rfl, f⟩
    · obtain ⟨w1, g, hg, hw1, f, hz1, H⟩ := boxedN hw #[.int .i64 ty, .int .i64 par, .string nm, .int .i64 size, .int .i64 mode, .int .u64 stamp, .int .i64 shadow, .string tg] 48
      obtain ⟨c0, c1, c2, c3, c4, c5, c6, c7⟩ := blk8 H
      clear H
      go_enter Tryd.func50, Tryd.ntmps50
      go_wp2_with (first
        | (go_at_call 60; refine (in_any _ _ _ _).mono ?_; rintro e wx ⟨rfl, rfl⟩; (try rw [F1.out]); (try rw [F2.out]); (try rw [F5.out]); (try rw [F6.out]); (try rw [F7.out]); (try rw [F8.out]))
        | (go_at_call 61; refine (name_any nm hnm _ f.ok).mono ?_; rw [F3.out]; rintro e wx ⟨rfl, q⟩; replace c0 := q.cell c0; replace c1 := q.cell c1; replace c2 := q.cell c2; replace c3 := q.cell c3; replace c4 := q.cell c4; replace c5 := q.cell c5; replace c6 := q.cell c6; replace c7 := q.cell c7; replace f := f.trans q; clear q)
        | (go_at_call 62; refine (Tryd.strings_Contains_one tg 0 _).mono ?_; rw [F9.out]; rintro e wx ⟨rfl, rfl⟩))
      go_ret
      exact ⟨by rw [HR.out]; rfl, f⟩
  have HC3 := Lib.hid (HC2.out.trans (if_neg (by omega)))
  have hs2 : shadow = 0 ∨ ((shadow != 0) = true ∧ ¬ shadow = 0 ∧ inB 2 shadow 1048575 = true) := by
    rcases hs with h | h
    · exact .inl h.1
    · exact .inr ⟨by simpa using h.1, h.1, inB_t (by omega)⟩
  clear HC2 h5 h6 h7 hs
  have hemp : tg.toList.isEmpty = decide (tg.data.toList = []) := by
    rw [Lib.toList_data, Bool.eq_iff_iff]
    simp only [List.isEmpty_iff, decide_eq_true_eq]
  by_cases h8 : ty = 3
  case neg =>
    have e3 : (ty == 3) = false := by simpa using h8
    cases ht : decide (tg.data.toList = []) with
    | false =>
      have te : tg.toList.isEmpty = false := hemp.trans ht
      have HR := Lib.hid (HC3.out.trans (if_pos (by unfold targetB; rw [if_neg h8]; exact ht)))
      clear HC3 h1 h8 hlim hemp ht
      rcases e1 with ⟨e1, rfl⟩ | ⟨e1, rfl⟩
      · rcases hs2 with rfl | ⟨s0, s1, h7⟩
        · obtain ⟨w1, g, hg, hw1, f, hz1, H⟩ := boxedN hw #[.int .i64 ty, .int .i64 par, .string nm, .int .i64 size, .int .i64 mode, .int .u64 stamp, .int .i64 (0 : Int), .string tg] 48
          obtain ⟨c0, c1, c2, c3, c4, c5, c6, c7⟩ := blk8 H
          clear H
          go_enter Tryd.func50, Tryd.ntmps50
          go_wp2_with (first
            | (go_at_call 60; refine (in_any _ _ _ _).mono ?_; rintro e wx ⟨rfl, rfl⟩; (try rw [F1.out]); (try rw [F2.out]); (try rw [F5.out]); (try rw [F6.out]); (try rw [F7.out]); (try rw [F8.out]))
            | (go_at_call 61; refine (name_any nm hnm _ f.ok).mono ?_; rw [F3.out]; rintro e wx ⟨rfl, q⟩; replace c0 := q.cell c0; replace c1 := q.cell c1; replace c2 := q.cell c2; replace c3 := q.cell c3; replace c4 := q.cell c4; replace c5 := q.cell c5; replace c6 := q.cell c6; replace c7 := q.cell c7; replace f := f.trans q; clear q)
            | (go_at_call 62; refine (Tryd.strings_Contains_one tg 0 _).mono ?_; rw [F9.out]; rintro e wx ⟨rfl, rfl⟩))
          go_ret
          exact ⟨by rw [HR.out]; rfl, f⟩
        · have F7 := Lib.hid h7
          clear h7
          obtain ⟨w1, g, hg, hw1, f, hz1, H⟩ := boxedN hw #[.int .i64 ty, .int .i64 par, .string nm, .int .i64 size, .int .i64 mode, .int .u64 stamp, .int .i64 shadow, .string tg] 48
          obtain ⟨c0, c1, c2, c3, c4, c5, c6, c7⟩ := blk8 H
          clear H
          go_enter Tryd.func50, Tryd.ntmps50
          go_wp2_with (first
            | (go_at_call 60; refine (in_any _ _ _ _).mono ?_; rintro e wx ⟨rfl, rfl⟩; (try rw [F1.out]); (try rw [F2.out]); (try rw [F5.out]); (try rw [F6.out]); (try rw [F7.out]); (try rw [F8.out]))
            | (go_at_call 61; refine (name_any nm hnm _ f.ok).mono ?_; rw [F3.out]; rintro e wx ⟨rfl, q⟩; replace c0 := q.cell c0; replace c1 := q.cell c1; replace c2 := q.cell c2; replace c3 := q.cell c3; replace c4 := q.cell c4; replace c5 := q.cell c5; replace c6 := q.cell c6; replace c7 := q.cell c7; replace f := f.trans q; clear q)
            | (go_at_call 62; refine (Tryd.strings_Contains_one tg 0 _).mono ?_; rw [F9.out]; rintro e wx ⟨rfl, rfl⟩))
          go_ret
          exact ⟨by rw [HR.out]; rfl, f⟩
      · rcases hs2 with rfl | ⟨s0, s1, h7⟩
        · obtain ⟨w1, g, hg, hw1, f, hz1, H⟩ := boxedN hw #[.int .i64 ty, .int .i64 par, .string nm, .int .i64 size, .int .i64 mode, .int .u64 stamp, .int .i64 (0 : Int), .string tg] 48
          obtain ⟨c0, c1, c2, c3, c4, c5, c6, c7⟩ := blk8 H
          clear H
          go_enter Tryd.func50, Tryd.ntmps50
          go_wp2_with (first
            | (go_at_call 60; refine (in_any _ _ _ _).mono ?_; rintro e wx ⟨rfl, rfl⟩; (try rw [F1.out]); (try rw [F2.out]); (try rw [F5.out]); (try rw [F6.out]); (try rw [F7.out]); (try rw [F8.out]))
            | (go_at_call 61; refine (name_any nm hnm _ f.ok).mono ?_; rw [F3.out]; rintro e wx ⟨rfl, q⟩; replace c0 := q.cell c0; replace c1 := q.cell c1; replace c2 := q.cell c2; replace c3 := q.cell c3; replace c4 := q.cell c4; replace c5 := q.cell c5; replace c6 := q.cell c6; replace c7 := q.cell c7; replace f := f.trans q; clear q)
            | (go_at_call 62; refine (Tryd.strings_Contains_one tg 0 _).mono ?_; rw [F9.out]; rintro e wx ⟨rfl, rfl⟩))
          go_ret
          exact ⟨by rw [HR.out]; rfl, f⟩
        · have F7 := Lib.hid h7
          clear h7
          obtain ⟨w1, g, hg, hw1, f, hz1, H⟩ := boxedN hw #[.int .i64 ty, .int .i64 par, .string nm, .int .i64 size, .int .i64 mode, .int .u64 stamp, .int .i64 shadow, .string tg] 48
          obtain ⟨c0, c1, c2, c3, c4, c5, c6, c7⟩ := blk8 H
          clear H
          go_enter Tryd.func50, Tryd.ntmps50
          go_wp2_with (first
            | (go_at_call 60; refine (in_any _ _ _ _).mono ?_; rintro e wx ⟨rfl, rfl⟩; (try rw [F1.out]); (try rw [F2.out]); (try rw [F5.out]); (try rw [F6.out]); (try rw [F7.out]); (try rw [F8.out]))
            | (go_at_call 61; refine (name_any nm hnm _ f.ok).mono ?_; rw [F3.out]; rintro e wx ⟨rfl, q⟩; replace c0 := q.cell c0; replace c1 := q.cell c1; replace c2 := q.cell c2; replace c3 := q.cell c3; replace c4 := q.cell c4; replace c5 := q.cell c5; replace c6 := q.cell c6; replace c7 := q.cell c7; replace f := f.trans q; clear q)
            | (go_at_call 62; refine (Tryd.strings_Contains_one tg 0 _).mono ?_; rw [F9.out]; rintro e wx ⟨rfl, rfl⟩))
          go_ret
          exact ⟨by rw [HR.out]; rfl, f⟩
    | true =>
      have te : tg.toList.isEmpty = true := hemp.trans ht
      have HR := Lib.hid (HC3.out.trans (if_neg (by unfold targetB; rw [if_neg h8, ht]; decide)))
      clear HC3 h1 h8 hlim hemp ht
      rcases e1 with ⟨e1, rfl⟩ | ⟨e1, rfl⟩
      · rcases hs2 with rfl | ⟨s0, s1, h7⟩
        · obtain ⟨w1, g, hg, hw1, f, hz1, H⟩ := boxedN hw #[.int .i64 ty, .int .i64 par, .string nm, .int .i64 size, .int .i64 mode, .int .u64 stamp, .int .i64 (0 : Int), .string tg] 48
          obtain ⟨c0, c1, c2, c3, c4, c5, c6, c7⟩ := blk8 H
          clear H
          go_enter Tryd.func50, Tryd.ntmps50
          go_wp2_with (first
            | (go_at_call 60; refine (in_any _ _ _ _).mono ?_; rintro e wx ⟨rfl, rfl⟩; (try rw [F1.out]); (try rw [F2.out]); (try rw [F5.out]); (try rw [F6.out]); (try rw [F7.out]); (try rw [F8.out]))
            | (go_at_call 61; refine (name_any nm hnm _ f.ok).mono ?_; rw [F3.out]; rintro e wx ⟨rfl, q⟩; replace c0 := q.cell c0; replace c1 := q.cell c1; replace c2 := q.cell c2; replace c3 := q.cell c3; replace c4 := q.cell c4; replace c5 := q.cell c5; replace c6 := q.cell c6; replace c7 := q.cell c7; replace f := f.trans q; clear q)
            | (go_at_call 62; refine (Tryd.strings_Contains_one tg 0 _).mono ?_; rw [F9.out]; rintro e wx ⟨rfl, rfl⟩))
          go_ret
          exact ⟨by rw [HR.out]; rfl, f⟩
        · have F7 := Lib.hid h7
          clear h7
          obtain ⟨w1, g, hg, hw1, f, hz1, H⟩ := boxedN hw #[.int .i64 ty, .int .i64 par, .string nm, .int .i64 size, .int .i64 mode, .int .u64 stamp, .int .i64 shadow, .string tg] 48
          obtain ⟨c0, c1, c2, c3, c4, c5, c6, c7⟩ := blk8 H
          clear H
          go_enter Tryd.func50, Tryd.ntmps50
          go_wp2_with (first
            | (go_at_call 60; refine (in_any _ _ _ _).mono ?_; rintro e wx ⟨rfl, rfl⟩; (try rw [F1.out]); (try rw [F2.out]); (try rw [F5.out]); (try rw [F6.out]); (try rw [F7.out]); (try rw [F8.out]))
            | (go_at_call 61; refine (name_any nm hnm _ f.ok).mono ?_; rw [F3.out]; rintro e wx ⟨rfl, q⟩; replace c0 := q.cell c0; replace c1 := q.cell c1; replace c2 := q.cell c2; replace c3 := q.cell c3; replace c4 := q.cell c4; replace c5 := q.cell c5; replace c6 := q.cell c6; replace c7 := q.cell c7; replace f := f.trans q; clear q)
            | (go_at_call 62; refine (Tryd.strings_Contains_one tg 0 _).mono ?_; rw [F9.out]; rintro e wx ⟨rfl, rfl⟩))
          go_ret
          exact ⟨by rw [HR.out]; rfl, f⟩
      · rcases hs2 with rfl | ⟨s0, s1, h7⟩
        · obtain ⟨w1, g, hg, hw1, f, hz1, H⟩ := boxedN hw #[.int .i64 ty, .int .i64 par, .string nm, .int .i64 size, .int .i64 mode, .int .u64 stamp, .int .i64 (0 : Int), .string tg] 48
          obtain ⟨c0, c1, c2, c3, c4, c5, c6, c7⟩ := blk8 H
          clear H
          go_enter Tryd.func50, Tryd.ntmps50
          go_wp2_with (first
            | (go_at_call 60; refine (in_any _ _ _ _).mono ?_; rintro e wx ⟨rfl, rfl⟩; (try rw [F1.out]); (try rw [F2.out]); (try rw [F5.out]); (try rw [F6.out]); (try rw [F7.out]); (try rw [F8.out]))
            | (go_at_call 61; refine (name_any nm hnm _ f.ok).mono ?_; rw [F3.out]; rintro e wx ⟨rfl, q⟩; replace c0 := q.cell c0; replace c1 := q.cell c1; replace c2 := q.cell c2; replace c3 := q.cell c3; replace c4 := q.cell c4; replace c5 := q.cell c5; replace c6 := q.cell c6; replace c7 := q.cell c7; replace f := f.trans q; clear q)
            | (go_at_call 62; refine (Tryd.strings_Contains_one tg 0 _).mono ?_; rw [F9.out]; rintro e wx ⟨rfl, rfl⟩))
          go_ret
          exact ⟨by rw [HR.out]; rfl, f⟩
        · have F7 := Lib.hid h7
          clear h7
          obtain ⟨w1, g, hg, hw1, f, hz1, H⟩ := boxedN hw #[.int .i64 ty, .int .i64 par, .string nm, .int .i64 size, .int .i64 mode, .int .u64 stamp, .int .i64 shadow, .string tg] 48
          obtain ⟨c0, c1, c2, c3, c4, c5, c6, c7⟩ := blk8 H
          clear H
          go_enter Tryd.func50, Tryd.ntmps50
          go_wp2_with (first
            | (go_at_call 60; refine (in_any _ _ _ _).mono ?_; rintro e wx ⟨rfl, rfl⟩; (try rw [F1.out]); (try rw [F2.out]); (try rw [F5.out]); (try rw [F6.out]); (try rw [F7.out]); (try rw [F8.out]))
            | (go_at_call 61; refine (name_any nm hnm _ f.ok).mono ?_; rw [F3.out]; rintro e wx ⟨rfl, q⟩; replace c0 := q.cell c0; replace c1 := q.cell c1; replace c2 := q.cell c2; replace c3 := q.cell c3; replace c4 := q.cell c4; replace c5 := q.cell c5; replace c6 := q.cell c6; replace c7 := q.cell c7; replace f := f.trans q; clear q)
            | (go_at_call 62; refine (Tryd.strings_Contains_one tg 0 _).mono ?_; rw [F9.out]; rintro e wx ⟨rfl, rfl⟩))
          go_ret
          exact ⟨by rw [HR.out]; rfl, f⟩
  have e3 : (ty == 3) = true := by simpa using h8
  have e1' : (ty == 1) = false ∧ lim = 0 := by
    rcases e1 with ⟨h, _⟩ | h
    · subst h8; exact absurd h (by decide)
    · exact h
  obtain ⟨e1, rfl⟩ := e1'
  have hT : targetB ty tg = (decide (1 ≤ tg.size ∧ tg.size ≤ 127) && noZero tg.data.toList) := by unfold targetB; rw [if_pos h8]
  by_cases h9 : 1 ≤ tg.size ∧ tg.size ≤ 127
  case neg =>
    have F8 := Lib.hid (inB_f (lo := 1) (n := (tg.size : Int)) (hi := 127) (by omega))
    have HR := Lib.hid (HC3.out.trans (if_pos (by rw [hT, decide_eq_false h9]; rfl)))
    clear HC3 h1 h8 hlim hemp hT h9
    rcases hs2 with rfl | ⟨s0, s1, h7⟩
    · obtain ⟨w1, g, hg, hw1, f, hz1, H⟩ := boxedN hw #[.int .i64 ty, .int .i64 par, .string nm, .int .i64 size, .int .i64 mode, .int .u64 stamp, .int .i64 (0 : Int), .string tg] 48
      obtain ⟨c0, c1, c2, c3, c4, c5, c6, c7⟩ := blk8 H
      clear H
      go_enter Tryd.func50, Tryd.ntmps50
      go_wp2_with (first
        | (go_at_call 60; refine (in_any _ _ _ _).mono ?_; rintro e wx ⟨rfl, rfl⟩; (try rw [F1.out]); (try rw [F2.out]); (try rw [F5.out]); (try rw [F6.out]); (try rw [F7.out]); (try rw [F8.out]))
        | (go_at_call 61; refine (name_any nm hnm _ f.ok).mono ?_; rw [F3.out]; rintro e wx ⟨rfl, q⟩; replace c0 := q.cell c0; replace c1 := q.cell c1; replace c2 := q.cell c2; replace c3 := q.cell c3; replace c4 := q.cell c4; replace c5 := q.cell c5; replace c6 := q.cell c6; replace c7 := q.cell c7; replace f := f.trans q; clear q)
        | (go_at_call 62; refine (Tryd.strings_Contains_one tg 0 _).mono ?_; rw [F9.out]; rintro e wx ⟨rfl, rfl⟩))
      go_ret
      exact ⟨by rw [HR.out]; rfl, f⟩
    · have F7 := Lib.hid h7
      clear h7
      obtain ⟨w1, g, hg, hw1, f, hz1, H⟩ := boxedN hw #[.int .i64 ty, .int .i64 par, .string nm, .int .i64 size, .int .i64 mode, .int .u64 stamp, .int .i64 shadow, .string tg] 48
      obtain ⟨c0, c1, c2, c3, c4, c5, c6, c7⟩ := blk8 H
      clear H
      go_enter Tryd.func50, Tryd.ntmps50
      go_wp2_with (first
        | (go_at_call 60; refine (in_any _ _ _ _).mono ?_; rintro e wx ⟨rfl, rfl⟩; (try rw [F1.out]); (try rw [F2.out]); (try rw [F5.out]); (try rw [F6.out]); (try rw [F7.out]); (try rw [F8.out]))
        | (go_at_call 61; refine (name_any nm hnm _ f.ok).mono ?_; rw [F3.out]; rintro e wx ⟨rfl, q⟩; replace c0 := q.cell c0; replace c1 := q.cell c1; replace c2 := q.cell c2; replace c3 := q.cell c3; replace c4 := q.cell c4; replace c5 := q.cell c5; replace c6 := q.cell c6; replace c7 := q.cell c7; replace f := f.trans q; clear q)
        | (go_at_call 62; refine (Tryd.strings_Contains_one tg 0 _).mono ?_; rw [F9.out]; rintro e wx ⟨rfl, rfl⟩))
      go_ret
      exact ⟨by rw [HR.out]; rfl, f⟩
  have F8 := Lib.hid (inB_t (lo := 1) (n := (tg.size : Int)) (hi := 127) (by omega))
  rw [decide_eq_true h9, Bool.true_and] at hT
  have hz := noZero_index tg.data.toList
  cases hn : noZero tg.data.toList with
  | false =>
    rw [hn] at hz hT
    have F9 := Lib.hid hz
    have HR := Lib.hid (HC3.out.trans (if_pos hT))
    clear HC3 h1 h8 hlim hemp hT h9 hz hn
    rcases hs2 with rfl | ⟨s0, s1, h7⟩
    · obtain ⟨w1, g, hg, hw1, f, hz1, H⟩ := boxedN hw #[.int .i64 ty, .int .i64 par, .string nm, .int .i64 size, .int .i64 mode, .int .u64 stamp, .int .i64 (0 : Int), .string tg] 48
      obtain ⟨c0, c1, c2, c3, c4, c5, c6, c7⟩ := blk8 H
      clear H
      go_enter Tryd.func50, Tryd.ntmps50
      go_wp2_with (first
        | (go_at_call 60; refine (in_any _ _ _ _).mono ?_; rintro e wx ⟨rfl, rfl⟩; (try rw [F1.out]); (try rw [F2.out]); (try rw [F5.out]); (try rw [F6.out]); (try rw [F7.out]); (try rw [F8.out]))
        | (go_at_call 61; refine (name_any nm hnm _ f.ok).mono ?_; rw [F3.out]; rintro e wx ⟨rfl, q⟩; replace c0 := q.cell c0; replace c1 := q.cell c1; replace c2 := q.cell c2; replace c3 := q.cell c3; replace c4 := q.cell c4; replace c5 := q.cell c5; replace c6 := q.cell c6; replace c7 := q.cell c7; replace f := f.trans q; clear q)
        | (go_at_call 62; refine (Tryd.strings_Contains_one tg 0 _).mono ?_; rw [F9.out]; rintro e wx ⟨rfl, rfl⟩))
      go_ret
      exact ⟨by rw [HR.out]; rfl, f⟩
    · have F7 := Lib.hid h7
      clear h7
      obtain ⟨w1, g, hg, hw1, f, hz1, H⟩ := boxedN hw #[.int .i64 ty, .int .i64 par, .string nm, .int .i64 size, .int .i64 mode, .int .u64 stamp, .int .i64 shadow, .string tg] 48
      obtain ⟨c0, c1, c2, c3, c4, c5, c6, c7⟩ := blk8 H
      clear H
      go_enter Tryd.func50, Tryd.ntmps50
      go_wp2_with (first
        | (go_at_call 60; refine (in_any _ _ _ _).mono ?_; rintro e wx ⟨rfl, rfl⟩; (try rw [F1.out]); (try rw [F2.out]); (try rw [F5.out]); (try rw [F6.out]); (try rw [F7.out]); (try rw [F8.out]))
        | (go_at_call 61; refine (name_any nm hnm _ f.ok).mono ?_; rw [F3.out]; rintro e wx ⟨rfl, q⟩; replace c0 := q.cell c0; replace c1 := q.cell c1; replace c2 := q.cell c2; replace c3 := q.cell c3; replace c4 := q.cell c4; replace c5 := q.cell c5; replace c6 := q.cell c6; replace c7 := q.cell c7; replace f := f.trans q; clear q)
        | (go_at_call 62; refine (Tryd.strings_Contains_one tg 0 _).mono ?_; rw [F9.out]; rintro e wx ⟨rfl, rfl⟩))
      go_ret
      exact ⟨by rw [HR.out]; rfl, f⟩
  | true =>
    rw [hn] at hz hT
    have F9 := Lib.hid hz
    have HR := Lib.hid (HC3.out.trans (if_neg (by rw [hT]; decide)))
    clear HC3 h1 h8 hlim hemp hT h9 hz hn
    rcases hs2 with rfl | ⟨s0, s1, h7⟩
    · obtain ⟨w1, g, hg, hw1, f, hz1, H⟩ := boxedN hw #[.int .i64 ty, .int .i64 par, .string nm, .int .i64 size, .int .i64 mode, .int .u64 stamp, .int .i64 (0 : Int), .string tg] 48
      obtain ⟨c0, c1, c2, c3, c4, c5, c6, c7⟩ := blk8 H
      clear H
      go_enter Tryd.func50, Tryd.ntmps50
      go_wp2_with (first
        | (go_at_call 60; refine (in_any _ _ _ _).mono ?_; rintro e wx ⟨rfl, rfl⟩; (try rw [F1.out]); (try rw [F2.out]); (try rw [F5.out]); (try rw [F6.out]); (try rw [F7.out]); (try rw [F8.out]))
        | (go_at_call 61; refine (name_any nm hnm _ f.ok).mono ?_; rw [F3.out]; rintro e wx ⟨rfl, q⟩; replace c0 := q.cell c0; replace c1 := q.cell c1; replace c2 := q.cell c2; replace c3 := q.cell c3; replace c4 := q.cell c4; replace c5 := q.cell c5; replace c6 := q.cell c6; replace c7 := q.cell c7; replace f := f.trans q; clear q)
        | (go_at_call 62; refine (Tryd.strings_Contains_one tg 0 _).mono ?_; rw [F9.out]; rintro e wx ⟨rfl, rfl⟩))
      go_ret
      exact ⟨by rw [HR.out]; rfl, f⟩
    · have F7 := Lib.hid h7
      clear h7
      obtain ⟨w1, g, hg, hw1, f, hz1, H⟩ := boxedN hw #[.int .i64 ty, .int .i64 par, .string nm, .int .i64 size, .int .i64 mode, .int .u64 stamp, .int .i64 shadow, .string tg] 48
      obtain ⟨c0, c1, c2, c3, c4, c5, c6, c7⟩ := blk8 H
      clear H
      go_enter Tryd.func50, Tryd.ntmps50
      go_wp2_with (first
        | (go_at_call 60; refine (in_any _ _ _ _).mono ?_; rintro e wx ⟨rfl, rfl⟩; (try rw [F1.out]); (try rw [F2.out]); (try rw [F5.out]); (try rw [F6.out]); (try rw [F7.out]); (try rw [F8.out]))
        | (go_at_call 61; refine (name_any nm hnm _ f.ok).mono ?_; rw [F3.out]; rintro e wx ⟨rfl, q⟩; replace c0 := q.cell c0; replace c1 := q.cell c1; replace c2 := q.cell c2; replace c3 := q.cell c3; replace c4 := q.cell c4; replace c5 := q.cell c5; replace c6 := q.cell c6; replace c7 := q.cell c7; replace f := f.trans q; clear q)
        | (go_at_call 62; refine (Tryd.strings_Contains_one tg 0 _).mono ?_; rw [F9.out]; rintro e wx ⟨rfl, rfl⟩))
      go_ret
      exact ⟨by rw [HR.out]; rfl, f⟩
end Go.Proofs.YtefkklgelmbaiaaDoor
/- words.Put into a row of bytes of the call's own. -/
set_option linter.unusedSimpArgs false
set_option linter.unusedVariables false
namespace Go.Proofs.YtefkklgelmbaiaaDoor
open Go.RowKit Go.Proofs Go.Proofs.YtefkklgelmbaiaaDoorW.PrintWords Go.Proofs.YtefkklgelmbaiaaDoorW.PrintMore

def putI : List Int → Nat → Int → Nat → List Int
  | l, _, _, 0 => l
  | l, at_, v, n + 1 => putI (l.set at_ (v % 256)) (at_ + 1) (v / 256) n
theorem putI_length : ∀ (n : Nat) (l : List Int) (at_ : Nat) (v : Int), (putI l at_ v n).length = l.length
  | 0, _, _, _ => rfl
  | n + 1, l, at_, v => by rw [putI, putI_length n, List.length_set]
theorem putI_eq : ∀ (z a b : List Int) (v : Int), putI (a ++ z ++ b) a.length v z.length = a ++ le v z.length ++ b
  | [], a, b, v => by simp [putI, le]
  | y :: z, a, b, v => by
    have h := putI_eq z (a ++ [v % 256]) b (v / 256)
    have hs : (a ++ y :: z ++ b).set a.length (v % 256) = a ++ [v % 256] ++ z ++ b := by simp
    rw [List.length_append, List.length_singleton] at h
    rw [List.length_cons, putI, hs, h]
    simp [le]
theorem bitLen_fits (x k : Nat) (h64 : x < 2 ^ 64) (h : x < 2 ^ k) : Lib.bitLen x ≤ k := by
  by_cases h0 : x = 0
  · subst h0; unfold Lib.bitLen; rw [Lib.bitLenAux_zero]; omega
  · obtain ⟨h1, h2, _⟩ := Lib.bitLenAux_bounds 64 x h64 h0
    by_cases hk : Lib.bitLenAux 64 x ≤ k
    · exact hk
    · have : 2 ^ k ≤ 2 ^ (Lib.bitLenAux 64 x - 1) := Nat.pow_le_pow_right (by omega) (by omega)
      omega

theorem OwnB.set {w : World} {B g n c : Nat} {xs : List Int} (h : OwnB w B (.slice (some ⟨g, 0, none⟩) n c) xs) (j : Nat) (x : Int) :
    OwnB (w.setCell ⟨g, j, none⟩ (.int .u8 x)) B (.slice (some ⟨g, 0, none⟩) n c) (xs.set j x) ∧ w.grownBy (w.setCell ⟨g, j, none⟩ (.int .u8 x)) (some g) := by
  have hn : n = xs.length := by obtain ⟨a, c', he⟩ := h.form; injection he
  subst hn
  obtain ⟨h1, h2⟩ := World.ownsRow.stored h j (.int .u8 x)
  refine ⟨?_, h2⟩
  unfold OwnB
  rw [List.length_set, List.map_set]
  exact h1
theorem OwnB.blk {w : World} {B : Nat} {v : Value} {xs : List Int} (h : OwnB w B v xs) (hp : 0 < xs.length) : ∃ g c, v = .slice (some ⟨g, 0, none⟩) xs.length c ∧ B ≤ g ∧ g < w.heap.size := by
  obtain ⟨g, c, he, hb, hl⟩ := World.ownsRow.form h hp
  exact ⟨g, c, he, hb, hl⟩
theorem OwnB.cellAt {w : World} {B g n c : Nat} {xs : List Int} (h : OwnB w B (.slice (some ⟨g, 0, none⟩) n c) xs) (j : Nat) (hj : j < xs.length) : w.cell? ⟨g, j, none⟩ = some (.int .u8 xs[j]) := by
  have hn : n = xs.length := by obtain ⟨a, c', he⟩ := h.form; injection he
  subst hn
  rw [World.ownsRow.cellAt h j (by omega)]
  simp [hj]
theorem OwnB.frozen {w : World} {B g n c : Nat} {xs : List Int} (h : OwnB w B (.slice (some ⟨g, 0, none⟩) n c) xs) (j : Nat) : w.frozen? ⟨g, j, none⟩ = false := by
  have hn : n = xs.length := by obtain ⟨a, c', he⟩ := h.form; injection he
  subst hn
  exact World.ownsRow.frozenAt h j
theorem grown_trans {a b c : World} {r : Option Nat} (h : a.grownBy b r) (k : b.grownBy c r) : a.grownBy c r :=
  ⟨k.os.trans h.os, k.tape.trans h.tape, k.output.trans h.output, Nat.le_trans h.size k.size, fun i hi hn => (k.block i (Nat.lt_of_lt_of_le hi h.size) hn).trans (h.block i hi hn)⟩
theorem grown_refl (a : World) (r : Option Nat) : a.grownBy a r := ⟨rfl, rfl, rfl, Nat.le_refl _, fun _ _ _ => rfl⟩

set_option maxHeartbeats 3200000 in
set_option maxRecDepth 100000 in
theorem put_any (u : Value) (l0 : List Int) (at_ sz : Nat) (v : Int) (B : Nat) (w : World) (ho : OwnB w B u l0) (h1 : 1 ≤ sz) (h8 : sz ≤ 8) (hv : 0 ≤ v) (hv2 : v.toNat < 2 ^ (8 * sz)) (hat : at_ + sz ≤ l0.length) (hl : l0.length ≤ 4611686018427387904) :
    Calls Tryd.prog 36 #[u, .int .i64 at_, .int .i64 sz, .int .u64 v] w fun e w' => e = .returned (.int .i64 0) ∧ OwnB w' B u (putI l0 at_ v sz) ∧ w.grownBy w' u.ownBlock := by
  obtain ⟨g, c, hu, hB, hg⟩ := ho.blk (by omega)
  subst hu
  have hv64 : v.toNat < 2 ^ 64 := Nat.lt_of_lt_of_le hv2 (Nat.pow_le_pow_right (by omega) (by omega))
  have hbl := bitLen_fits v.toNat (8 * sz) hv64 hv2
  have d1 : decide ((sz : Int) < 1) = false := decide_eq_false (by omega)
  have d2 : decide ((8 : Int) < (sz : Int)) = false := decide_eq_false (by omega)
  have d3 : decide ((at_ : Int) < 0) = false := decide_eq_false (by omega)
  have HO := Lib.hid ho
  clear ho
  go_enter Tryd.func36, Tryd.ntmps36
  go_wp2_with (go_at_call 52; refine (Tryd.bits_Len64 v _ hv (by omega)).mono ?_; rintro e w' ⟨rfl, hq⟩; rw [hq]; clear hq w')
  go_loopg [34] sz (fun k v34 wc => ∃ (i : Nat) (x0 : List Int), v34 = .int .i64 (i : Int) ∧ k + i = sz ∧ x0.length = l0.length ∧ Hid (putI x0 (at_ + i) (v / 2 ^ (8 * i)) k = putI l0 at_ v sz) ∧ Hid (OwnB wc B (.slice (some ⟨g, 0, none⟩) l0.length c) x0) ∧ Hid (w.grownBy wc (some g)))
  case atStart => exact ⟨0, l0, rfl, by omega, rfl, Lib.hid (by rw [Nat.add_zero, Nat.mul_zero]; simp), HO, Lib.hid (grown_refl _ _)⟩
  case round =>
    clear HO
    obtain ⟨i, x0, rfl, hk, hxl, HP, HO, HG⟩ := hrel
    cases gk with
    | zero =>
      have d4 : decide ((i : Int) < (sz : Int)) = false := decide_eq_false (by omega)
      have hP := HP.out
      clear HP
      simp only [putI] at hP
      subst hP
      go_wp2
      go_ret
      exact ⟨rfl, by have := HO.out; rwa [← hxl] at this, HG.out⟩
    | succ k =>
      have d4 : decide ((i : Int) < (sz : Int)) = true := decide_eq_true (by omega)
      have hc := HO.out.cellAt (at_ + i) (by omega)
      have hf := HO.out.frozen (at_ + i)
      have HS := Lib.hid (HO.out.set (at_ + i) (v / 2 ^ (8 * i) % 256))
      clear HO
      go_wp2
      go_roundg k
      case measure => omega
      case rel =>
        refine ⟨i + 1, x0.set (at_ + i) (v / 2 ^ (8 * i) % 256), by simp, by omega, by rw [List.length_set]; exact hxl, Lib.hid ?_, Lib.hid HS.out.1, Lib.hid (grown_trans HG.out HS.out.2)⟩
        have hP := HP.out
        simp only [putI] at hP
        rw [← hP, ← Nat.add_assoc, Int.ediv_ediv_of_nonneg (Int.pow_nonneg (by decide)), show (8 * (i + 1)) = 8 * i + 8 by omega, Int.pow_add]
        rfl
end Go.Proofs.YtefkklgelmbaiaaDoor
set_option linter.unusedSimpArgs false
set_option linter.unusedVariables false
namespace Go.Proofs.YtefkklgelmbaiaaDoor
open Go.RowKit Go.Proofs Go.Proofs.YtefkklgelmbaiaaDoorW.PrintWords Go.Proofs.YtefkklgelmbaiaaDoorW.PrintMore

theorem text_any (s : ByteArray) (hs : s.size ≤ 1099511627776) (w : World) (hw : Ok w) :
    Calls Tryd.prog 55 #[.string s] w fun e w' => Fr w w' ∧ ∃ v, e = .returned v ∧ OwnB w' w.heap.size v (le s.size 1 ++ bytesI s) := by
  have hf : Ptext.node_text.f s = some (le s.size 1 ++ bytesI s) := by
    unfold Ptext.node_text.f
    simp only [Option.bind_some]
    rw [if_pos (by simp; omega)]
    rfl
  exact (Ptext.node_text.calls s _ w hf).mono fun _ _ ⟨v, he, hR, hb⟩ => ⟨Fr.of hw hb, v, he, .ofR hR⟩

theorem OwnB.toC {w : World} {B : Nat} {A : Option Addr} {n c : Nat} {xs : List Int} (h : OwnB w B (.slice A n c) xs) : n = xs.length ∧ xs.length ≤ c ∧ Kd.C (Kd.int .u8) w A xs.length xs := by
  have hR : Kd.R (Kd.int .u8) 5 w B (fun _ => True) (.slice A n c) xs := Kd.R_of_own h (fun _ _ => trivial)
  obtain ⟨A', c', he, hl, hC⟩ := Kd.R_reads hR
  injection he with e1 e2 e3
  subst e1; subst e2; subst e3
  exact ⟨rfl, hl, hC⟩
theorem join3_f (x y z : List Int) (h : x.length + y.length + z.length ≤ 4398046511104) : PJoin.words_Join.f 4 [x, y, z] = some (x ++ y ++ z) := by
  unfold PJoin.words_Join.f
  have r0 : PJoin.rd_L1 [x, y, z] 0 = x := rfl
  have r1 : PJoin.rd_L1 [x, y, z] 1 = y := rfl
  have r2 : PJoin.rd_L1 [x, y, z] 2 = z := rfl
  have l3 : (([x, y, z] : List (List Int)).length : Int) = 3 := rfl
  have v1 : wrap64 (0 + 1) = 1 := by simp [wrap64]
  have v2 : wrap64 (1 + 1) = 2 := by simp [wrap64]
  have v3 : wrap64 (2 + 1) = 3 := by simp [wrap64]
  rw [l3]
  simp only [PJoin.words_Join.l0, r0, r1, r2, l3]
  rw [if_pos (by omega), if_pos (by omega), if_pos (by omega), if_pos (by simp; omega), v1, if_pos (by omega), if_pos (by omega), if_pos (by omega), r1, if_pos (by simp; omega), v2, if_pos (by omega), if_pos (by omega), if_pos (by omega), r2, if_pos (by simp; omega), v3, if_neg (by omega)]
  simp
theorem join3_any (g : Nat) (vx vy vz : Value) (x y z : List Int) (B : Nat) (w : World) (hw : Ok w) (hg : w.heap[g]? = some (.cells #[vx, vy, vz] 27 (0, 0))) (hx : OwnB w B vx x) (hy : OwnB w B vy y) (hz : OwnB w B vz z) (h : x.length + y.length + z.length ≤ 4398046511104) :
    Calls Tryd.prog 54 #[.slice (some ⟨g, 0, none⟩) 3 3] w fun e w' => Fr w w' ∧ ∃ v, e = .returned v ∧ OwnB w' w.heap.size v (x ++ y ++ z) := by
  obtain ⟨ax, cx, rfl⟩ := hx.form
  obtain ⟨ay, cy, rfl⟩ := hy.form
  obtain ⟨az, cz, rfl⟩ := hz.form
  obtain ⟨_, hlx, hCx⟩ := hx.toC
  obtain ⟨_, hly, hCy⟩ := hy.toC
  obtain ⟨_, hlz, hCz⟩ := hz.toC
  have hC : Kd.C (Kd.slice 5 (Kd.int .u8)) w (some ⟨g, 0, none⟩) ([x, y, z] : List (List Int)).length [x, y, z] := by
    refine ⟨rfl, by simp, fun _ => ⟨_, rfl, fun j p hj => ?_⟩⟩
    have key : ∀ (A : Option Addr) (c : Nat) (l : List Int), l.length ≤ c → Kd.C (Kd.int .u8) w A l.length l → w.cell? ⟨g, j, none⟩ = some (.slice A l.length c) → p = l →
        ∃ cs : List Value, cs.length = (Kd.slice 5 (Kd.int .u8)).sz ∧ (Kd.slice 5 (Kd.int .u8)).K w p cs ∧ ∀ i u, cs[i]? = some u → w.cell? ((⟨g, 0, none⟩ : Addr).add (j * (Kd.slice 5 (Kd.int .u8)).sz + i)) = some u := by
      rintro A c l hl hC hcell rfl
      refine ⟨[.slice A p.length c], rfl, ⟨A, c, rfl, hl, hC⟩, fun i u hu => ?_⟩
      have hi : i = 0 := by
        have := (List.getElem?_eq_some_iff.1 hu).1
        simpa using this
      subst hi
      simp at hu
      subst hu
      rw [Lib.add_plain, show (Kd.slice 5 (Kd.int .u8)).sz = 1 from rfl, Nat.mul_one, Nat.add_zero, Nat.zero_add]
      exact hcell
    match j, hj with
    | 0, hj => exact key ax cx x hlx hCx (blk_cell hg rfl) (by simpa using hj.symm)
    | 1, hj => exact key ay cy y hly hCy (blk_cell hg rfl) (by simpa using hj.symm)
    | 2, hj => exact key az cz z hlz hCz (blk_cell hg rfl) (by simpa using hj.symm)
    | j + 3, hj => simp at hj
  exact (PJoin.words_Join.calls 4 _ 3 [x, y, z] _ w hC (by simp) (join3_f x y z h)).mono fun _ _ ⟨v, he, hR, hb⟩ => ⟨Fr.of hw hb, v, he, .ofR hR⟩

set_option maxRecDepth 100000 in
theorem put1_any (at_ sz : Nat) (v : Int) (gh : Nat) (u : Value) (l0 : List Int) (B : Nat) (w : World) (hgh : w.heap[gh]? = some (.cells #[u] 27 (0, 0))) (ho : OwnB w B u l0) (h1 : 1 ≤ sz) (h8 : sz ≤ 8) (hv : 0 ≤ v) (hv2 : v.toNat < 2 ^ (8 * sz)) (hat : at_ + sz ≤ l0.length) (hl : l0.length ≤ 4611686018427387904) :
    Calls Tryd.prog 53 #[.agg #[.int .i64 at_, .int .i64 sz], .int .u64 v, .pointer (some ⟨gh, 0, none⟩)] w fun e w' => e = .returned (.tuple #[]) ∧ OwnB w' B u (putI l0 at_ v sz) ∧ w.grownBy w' u.ownBlock := by
  have hgl : gh < w.heap.size := (Array.getElem?_eq_some_iff.1 hgh).1
  obtain ⟨g1, hg1⟩ : ∃ g1, w.heap.size = g1 := ⟨_, rfl⟩
  obtain ⟨w1, hw1⟩ : ∃ w1, w.alloc (.cells #[.int .i64 at_, .int .i64 sz] 103) = w1 := ⟨_, rfl⟩
  have hG : w.grownBy w1 u.ownBlock := by rw [← hw1]; exact World.grownBy_alloc w _ _
  have ho1 : OwnB w1 B u l0 := by rw [← hw1]; exact World.ownsRow.alloc ho _
  have H1 : w1.heap[g1]? = some (.cells #[.int .i64 at_, .int .i64 sz] 103 (0, 0)) := by rw [← hw1, ← hg1]; exact heap_alloc_new w _
  have H0 : w1.heap[gh]? = some (.cells #[u] 27 (0, 0)) := by rw [← hw1, heap_alloc_old w _ hgl]; exact hgh
  obtain ⟨c0, c1⟩ := blk2 H1
  have d0 := blk1 H0
  obtain ⟨a, c, rfl⟩ := ho.form
  clear H1 H0 hgh
  go_enter Tryd.func53, Tryd.ntmps53
  go_wp2_with (go_at_call 36; refine (put_any _ l0 at_ sz v B _ ho1 h1 h8 hv hv2 hat hl).mono ?_; rintro e w' ⟨rfl, o2, q⟩)
  exact bodyPost_end (v := .tuple #[]) (results_none rfl _ _ _) rfl ⟨rfl, o2, grown_trans hG q⟩

theorem gl6 {w : World} (h : Ok w) : w.cell? ⟨0, 0, none⟩ = some (.int .i64 0) ∧ w.cell? ⟨0, 1, none⟩ = some (.int .i64 1) ∧ w.cell? ⟨1, 0, none⟩ = some (.int .i64 1) ∧ w.cell? ⟨1, 1, none⟩ = some (.int .i64 4) ∧
    w.cell? ⟨2, 0, none⟩ = some (.int .i64 5) ∧ w.cell? ⟨2, 1, none⟩ = some (.int .i64 4) ∧ w.cell? ⟨3, 0, none⟩ = some (.int .i64 9) ∧ w.cell? ⟨3, 1, none⟩ = some (.int .i64 2) ∧
    w.cell? ⟨4, 0, none⟩ = some (.int .i64 11) ∧ w.cell? ⟨4, 1, none⟩ = some (.int .i64 8) ∧ w.cell? ⟨5, 0, none⟩ = some (.int .i64 19) ∧ w.cell? ⟨5, 1, none⟩ = some (.int .i64 4) :=
  ⟨World.var?_cell gFType h.fType 0, World.var?_cell gFType h.fType 1, World.var?_cell gFParent h.fParent 0, World.var?_cell gFParent h.fParent 1, World.var?_cell gFSize h.fSize 0, World.var?_cell gFSize h.fSize 1, World.var?_cell gFMode h.fMode 0, World.var?_cell gFMode h.fMode 1, World.var?_cell gFStamp h.fStamp 0, World.var?_cell gFStamp h.fStamp 1, World.var?_cell gFShadow h.fShadow 0, World.var?_cell gFShadow h.fShadow 1⟩

theorem put_next (pre : List Int) (sz m : Nat) (v : Int) : putI (pre ++ List.replicate (sz + m) 0) pre.length v sz = (pre ++ le v sz) ++ List.replicate m 0 := by
  have h := putI_eq (List.replicate sz 0) pre (List.replicate m 0) v
  rw [List.length_replicate] at h
  rw [← List.replicate_append_replicate, ← List.append_assoc, h]
theorem put1_next (ai si : Int) (pre : List Int) (sz m : Nat) (v : Int) (gh : Nat) (u : Value) (B : Nat) (w : World) (hgh : w.heap[gh]? = some (.cells #[u] 27 (0, 0))) (M : Nat) (hM : M = sz + m) (ho : OwnB w B u (pre ++ List.replicate M 0)) (ha : ai = (pre.length : Int)) (hs : si = (sz : Int)) (h1 : 1 ≤ sz) (h8 : sz ≤ 8) (hv : 0 ≤ v) (hv2 : v.toNat < 2 ^ (8 * sz)) (hl : pre.length + sz + m ≤ 1000000) :
    Calls Tryd.prog 53 #[.agg #[.int .i64 ai, .int .i64 si], .int .u64 v, .pointer (some ⟨gh, 0, none⟩)] w fun e w' => e = .returned (.tuple #[]) ∧ OwnB w' B u ((pre ++ le v sz) ++ List.replicate m 0) ∧ w.grownBy w' u.ownBlock := by
  subst ha; subst hs; subst hM
  have h := put1_any pre.length sz v gh u _ B w hgh ho h1 h8 hv hv2 (by simp) (by simp; omega)
  rw [put_next] at h
  exact h
theorem check_facts {n : Nod} (h : checkL n = 0) : 1 ≤ n.ty ∧ n.ty ≤ 3 ∧ 0 ≤ n.par ∧ n.par ≤ 1048575 ∧ n.name.size ≤ 63 ∧ 0 ≤ n.size ∧ n.size ≤ 2147483648 ∧ 0 ≤ n.mode ∧ n.mode ≤ 4095 ∧ 0 ≤ n.shadow ∧ n.shadow ≤ 1048575 ∧ n.tgt.size ≤ 127 := by
  unfold checkL at h
  split at h
  · cases h
  · rename_i h1
    split at h
    · cases h
    · rename_i h2
      split at h
      · cases h
      · rename_i h3
        split at h
        · cases h
        · rename_i h4
          have hn : n.name.size ≤ 63 := by
            unfold nameL at h2
            split at h2
            · omega
            · exact absurd (by decide) h2
          have ht : n.tgt.size ≤ 127 := by
            unfold targetB at h4
            split at h4
            · simp at h4; omega
            · have : n.tgt.data.toList = [] := by simpa using h4
              have h0 : n.tgt.size = 0 := by show n.tgt.data.size = 0; rw [← Array.length_toList, this]; rfl
              omega
          omega
theorem own_ne {w : World} {B : Nat} {v : Value} {xs : List Int} (h : OwnB w B v xs) {g : Nat} {cs : Array Value} {t : TypeId} (hg : w.heap[g]? = some (.cells cs t (0, 0))) (ht : 5 ≠ t) : some g ≠ v.ownBlock := by
  rintro e
  rcases h.2 with ⟨rfl, _⟩ | ⟨g', cap, cur, rfl, _, hg', _⟩
  · cases e
  · injection e with e
    subst e
    rw [hg] at hg'
    injection hg' with h1
    injection h1 with _ h2
    exact ht h2.symm
theorem own_ne' {w : World} {B : Nat} {v : Value} {xs : List Int} (h : OwnB w B v xs) {g : Nat} (hg : g < B) : some g ≠ v.ownBlock := by
  rintro e
  rcases h.2 with ⟨rfl, _⟩ | ⟨g', cap, cur, rfl, hb, _⟩
  · cases e
  · injection e with e
    subst e
    exact absurd hb (by omega)
theorem grown_blk' {w w' : World} {r : Option Nat} (q : w.grownBy w' r) {g : Nat} {o : Obj} (hg : w.heap[g]? = some o) (hr : some g ≠ r) : w'.heap[g]? = some o :=
  (q.block g (Array.getElem?_eq_some_iff.1 hg).1 hr).trans hg
theorem info_byte : ∃ i, Tryd.prog.info? 5 = some i ∧ i.zero = some (.int .u8 0) ∧ i.size = 1 ∧ i.bytes = 1 := by
  have : (Tryd.prog.info? 5).map (fun i => (i.zero, i.size, i.bytes)) = some (some (.int .u8 0), 1, 1) := by kernel_rfl
  obtain ⟨i, hi, he⟩ := Option.map_eq_some_iff.1 this
  injection he with e1 e2
  injection e2 with e2 e3
  exact ⟨i, hi, e1, e2, e3⟩
theorem make_bytes (n : Nat) (hn : n ≤ 1000000) (B : Nat) (w : World) (hB : B ≤ w.heap.size) : ∃ w', (Instr.makeSlice 27 (.int .i64 (n : Int)) (.int .i64 (n : Int))).run Tryd.prog w = .ok (.slice (some ⟨w.heap.size, 0, none⟩) n n) w' ∧ OwnB w' B (.slice (some ⟨w.heap.size, 0, none⟩) n n) (List.replicate n 0) ∧ w.grownBy w' none := by
  obtain ⟨i, hi, hz, hs, hb⟩ := info_byte
  obtain ⟨w', h1, h2, h3⟩ := run_make_full (P := Tryd.prog) w B 27 5 i (.int .u8 0) 1 Tryd.underlying27 hi hz hs .i64 .i64 n (by rw [hb]; omega) (by unfold maxLen; omega) hB
  refine ⟨w', h1, ?_, h3⟩
  unfold OwnB
  rw [List.length_replicate, List.map_replicate]
  have : (madeCells (Value.int .u8 0).cells (n * 1)).toList = List.replicate n (Value.int .u8 0) := by rw [Nat.mul_one]; exact toList_madeCells_one _ _
  rw [this] at h2
  exact h2

set_option maxHeartbeats 6400000 in
set_option maxRecDepth 100000 in
theorem nodePack_any (n : Nod) (h : n.wf) (hnm : n.name.size ≤ 1073741824) (w : World) (hw : Ok w) :
    Calls Tryd.prog 37 #[.agg #[.int .i64 n.ty, .int .i64 n.par, .string n.name, .int .i64 n.size, .int .i64 n.mode, .int .u64 n.stamp, .int .i64 n.shadow, .string n.tgt]] w fun e w' => Fr w w' ∧ ∃ v, e = .returned (.tuple #[v, .int .i64 (checkL n)]) ∧ OwnB w' w.heap.size v (packN n) := by
  have HCk := Lib.hid (fun w hw => check_any n h hnm w hw)
  by_cases hc : checkL n = 0
  case neg =>
    have HP : Hid (packN n = []) := Lib.hid (if_neg hc)
    have hcb : (checkL n != 0) = true := by simpa using hc
    obtain ⟨w1, g, hg, hw1, f, hz1, H⟩ := boxedN hw #[.int .i64 n.ty, .int .i64 n.par, .string n.name, .int .i64 n.size, .int .i64 n.mode, .int .u64 n.stamp, .int .i64 n.shadow, .string n.tgt] 48
    obtain ⟨c0, c1, c2, c3, c4, c5, c6, c7⟩ := blk8 H
    go_enter Tryd.func37, Tryd.ntmps37
    go_wp2_with (go_at_call 50; refine (HCk.out _ f.ok).mono ?_; rintro e wx ⟨rfl, q⟩; replace f := f.trans q; clear q)
    refine bodyPost_ret (results_tmp2 rfl _ _ _) rfl ⟨f, _, rfl, by rw [HP.out]; exact .nil _ _⟩
  case pos =>
    have HP : Hid (packN n = nodeL n) := Lib.hid (if_pos hc)
    obtain ⟨w1, g, hg, hw1, f, hz1, H⟩ := boxedN hw #[.int .i64 n.ty, .int .i64 n.par, .string n.name, .int .i64 n.size, .int .i64 n.mode, .int .u64 n.stamp, .int .i64 n.shadow, .string n.tgt] 48
    obtain ⟨c0, c1, c2, c3, c4, c5, c6, c7⟩ := blk8 H
    go_enter Tryd.func37, Tryd.ntmps37
    have hF := Lib.hid (check_facts hc)
    have hst := h.2.2.2.2.1
    obtain ⟨k1, k2, k3, k4, k5, k6, k7, k8, k9, k10, k11, k12⟩ := hF.out
    have k13 : 0 ≤ n.stamp := hst.1
    have k14 : n.stamp ≤ 18446744073709551615 := hst.2
    clear hst
    go_wp2_with (first
      | (go_at_call 50; refine (HCk.out _ f.ok).mono ?_; rw [hc]; go_loud (rintro e wx ⟨rfl, q⟩; replace H := q.heap H; replace f := f.trans q; clear q; have hszx := f.size; obtain ⟨gr, hgr⟩ : ∃ gr, wx.heap.size = gr := ⟨_, rfl⟩; obtain ⟨wm, hmk, O, q⟩ := make_bytes 23 (by omega) w.heap.size wx f.size; rw [hgr] at hmk O; replace f := f.row hw q (by simp); replace H := grown_blk' q H (by simp); clear q; have hmk' : (Instr.makeSlice 27 (.int .i64 23) (.int .i64 23)).run Tryd.prog wx = .ok (.slice (some ⟨gr, 0, none⟩) 23 23) wm := hmk; clear hmk; obtain ⟨w3, gh, hgh, hw3, f3, hz3, HH⟩ := boxedN f.ok #[.slice (some ⟨gr, 0, none⟩) 23 23] 27; replace H := f3.heap H; replace O := O.fr f3; replace f := f.trans f3; clear f3; obtain ⟨c0, c1, c2, c3, c4, c5, c6, c7⟩ := blk8 H; have ch := blk1 HH; obtain ⟨t0, t1, t2, t3, t4, t5, t6, t7, t8, t9, t10, t11⟩ := gl6 f.ok; have hne0 := own_ne O H (by decide); have hne1 := own_ne O HH (by decide); have hro : ∀ k, (Value.slice (some ⟨gr, 0, none⟩) 23 23).ownBlock = some k → w.heap.size ≤ k := (by intro k hk; have e := Option.some.inj hk; subst e; rw [← hgr]; exact hszx); clear hszx; have tok0 : True := trivial))
      | (go_at_call 53; have _t := tok0; refine (put1_next 0 1 ([] : List Int) 1 22 n.ty gh _ _ _ HH 23 rfl O rfl rfl (by omega) (by omega) (by omega) (by have := hF.out; simp only [Nat.reducePow, Nat.reduceMul]; omega) (by simp [le_length])).mono ?_; rintro e wx ⟨rfl, O2, q⟩; replace f := f.row hw q hro; replace H := grown_blk' q H hne0; replace HH := grown_blk' q HH hne1; obtain ⟨c0, c1, c2, c3, c4, c5, c6, c7⟩ := blk8 H; have ch := blk1 HH; obtain ⟨t0, t1, t2, t3, t4, t5, t6, t7, t8, t9, t10, t11⟩ := gl6 f.ok; clear O q tok0; have O := O2; clear O2; have tok1 : True := trivial)
      | (go_at_call 53; have _t := tok1; refine (put1_next 1 4 (le n.ty 1) 4 18 n.par gh _ _ _ HH 22 rfl O (by simp only [List.length_append, le_length]; rfl) rfl (by omega) (by omega) (by omega) (by have := hF.out; simp only [Nat.reducePow, Nat.reduceMul]; omega) (by simp [le_length])).mono ?_; rintro e wx ⟨rfl, O2, q⟩; replace f := f.row hw q hro; replace H := grown_blk' q H hne0; replace HH := grown_blk' q HH hne1; obtain ⟨c0, c1, c2, c3, c4, c5, c6, c7⟩ := blk8 H; have ch := blk1 HH; obtain ⟨t0, t1, t2, t3, t4, t5, t6, t7, t8, t9, t10, t11⟩ := gl6 f.ok; clear O q tok1; have O := O2; clear O2; have tok2 : True := trivial)
      | (go_at_call 53; have _t := tok2; refine (put1_next 5 4 (le n.ty 1 ++ le n.par 4) 4 14 n.size gh _ _ _ HH 18 rfl O (by simp only [List.length_append, le_length]; rfl) rfl (by omega) (by omega) (by omega) (by have := hF.out; simp only [Nat.reducePow, Nat.reduceMul]; omega) (by simp [le_length])).mono ?_; rintro e wx ⟨rfl, O2, q⟩; replace f := f.row hw q hro; replace H := grown_blk' q H hne0; replace HH := grown_blk' q HH hne1; obtain ⟨c0, c1, c2, c3, c4, c5, c6, c7⟩ := blk8 H; have ch := blk1 HH; obtain ⟨t0, t1, t2, t3, t4, t5, t6, t7, t8, t9, t10, t11⟩ := gl6 f.ok; clear O q tok2; have O := O2; clear O2; have tok3 : True := trivial)
      | (go_at_call 53; have _t := tok3; refine (put1_next 9 2 ((le n.ty 1 ++ le n.par 4) ++ le n.size 4) 2 12 n.mode gh _ _ _ HH 14 rfl O (by simp only [List.length_append, le_length]; rfl) rfl (by omega) (by omega) (by omega) (by have := hF.out; simp only [Nat.reducePow, Nat.reduceMul]; omega) (by simp [le_length])).mono ?_; rintro e wx ⟨rfl, O2, q⟩; replace f := f.row hw q hro; replace H := grown_blk' q H hne0; replace HH := grown_blk' q HH hne1; obtain ⟨c0, c1, c2, c3, c4, c5, c6, c7⟩ := blk8 H; have ch := blk1 HH; obtain ⟨t0, t1, t2, t3, t4, t5, t6, t7, t8, t9, t10, t11⟩ := gl6 f.ok; clear O q tok3; have O := O2; clear O2; have tok4 : True := trivial)
      | (go_at_call 53; have _t := tok4; refine (put1_next 11 8 (((le n.ty 1 ++ le n.par 4) ++ le n.size 4) ++ le n.mode 2) 8 4 n.stamp gh _ _ _ HH 12 rfl O (by simp only [List.length_append, le_length]; rfl) rfl (by omega) (by omega) (by omega) (by have := hF.out; simp only [Nat.reducePow, Nat.reduceMul]; omega) (by simp [le_length])).mono ?_; rintro e wx ⟨rfl, O2, q⟩; replace f := f.row hw q hro; replace H := grown_blk' q H hne0; replace HH := grown_blk' q HH hne1; obtain ⟨c0, c1, c2, c3, c4, c5, c6, c7⟩ := blk8 H; have ch := blk1 HH; obtain ⟨t0, t1, t2, t3, t4, t5, t6, t7, t8, t9, t10, t11⟩ := gl6 f.ok; clear O q tok4; have O := O2; clear O2; have tok5 : True := trivial)
      | (go_at_call 53; have _t := tok5; refine (put1_next 19 4 ((((le n.ty 1 ++ le n.par 4) ++ le n.size 4) ++ le n.mode 2) ++ le n.stamp 8) 4 0 n.shadow gh _ _ _ HH 4 rfl O (by simp only [List.length_append, le_length]; rfl) rfl (by omega) (by omega) (by omega) (by have := hF.out; simp only [Nat.reducePow, Nat.reduceMul]; omega) (by simp [le_length])).mono ?_; rintro e wx ⟨rfl, O2, q⟩; replace f := f.row hw q hro; replace H := grown_blk' q H hne0; replace HH := grown_blk' q HH hne1; obtain ⟨c0, c1, c2, c3, c4, c5, c6, c7⟩ := blk8 H; have ch := blk1 HH; obtain ⟨t0, t1, t2, t3, t4, t5, t6, t7, t8, t9, t10, t11⟩ := gl6 f.ok; clear O q tok5; have O := O2; clear O2; have tok6 : True := trivial))
    rw [List.replicate_zero, List.append_nil] at O
    clear t0 t1 t2 t3 t4 t5 t6 t7 t8 t9 t10 t11 c0 c1 c3 c4 c5 c6 hne0 hne1 hro
    go_region_held3 (fun w' => w'.cell? ⟨gh, 0, none⟩ = some (.slice (some ⟨gr, 0, none⟩) 23 23) ∧ w'.cell? ⟨g, 2, none⟩ = some (.string n.name) ∧ w'.cell? ⟨g, 7, none⟩ = some (.string n.tgt)) (first | go_keep | exact ⟨ch, c2, c7⟩ | exact K5)
      (first
        | (go_at_call 55; have _t := tok6; refine (text_any n.name (by omega) _ f.drew.ok).mono ?_; rintro e w4 ⟨q, v1, rfl, O1⟩; obtain ⟨a1, b1, hv1⟩ := O1.form; obtain ⟨n1, hn1⟩ : ∃ n1, (le n.name.size 1 ++ bytesI n.name).length = n1 := ⟨_, rfl⟩; rw [hn1] at hv1; subst hv1; have q1 := (Fr.refl f.ok).drew.trans q; replace O1 := O1.low (show w.heap.size ≤ _ from f.drew.size); replace O := O.fr q1; replace ch := q1.cell ch; replace c2 := q1.cell c2; replace c7 := q1.cell c7; replace f := f.trans q1; clear q q1 tok6; have tok7 : True := trivial)
        | (go_at_call 55; have _t := tok7; refine (text_any n.tgt (by omega) _ f.ok).mono ?_; rintro e w5 ⟨q, v2, rfl, O2⟩; obtain ⟨a2, b2, hv2⟩ := O2.form; obtain ⟨n2, hn2⟩ : ∃ n2, (le n.tgt.size 1 ++ bytesI n.tgt).length = n2 := ⟨_, rfl⟩; rw [hn2] at hv2; subst hv2; replace O2 := O2.low (show w.heap.size ≤ _ from f.size); replace O := O.fr q; replace O1 := O1.fr q; replace ch := q.cell ch; replace c2 := q.cell c2; replace c7 := q.cell c7; replace f := f.trans q; clear q tok7; obtain ⟨w6, g6, hg6, hw6, f6, hz6, H6⟩ := boxedN f.ok #[.slice (some ⟨gr, 0, none⟩) 23 23, .slice a1 n1 b1, .slice a2 n2 b2] 27; replace O := O.fr f6; replace O1 := O1.fr f6; replace O2 := O2.fr f6; have K5 := And.intro ch (And.intro c2 c7); replace ch := f6.cell ch; replace c2 := f6.cell c2; replace c7 := f6.cell c7; replace f := f.trans f6; clear f6; have tok8 : True := trivial)
        | (go_at_call 54; have _t := tok8; refine (join3_any g6 _ _ _ _ _ _ w.heap.size w6 f.ok H6 O O1 O2 (by simp [le_length, bytesI_length]; omega)).mono ?_; rintro e w7 ⟨q, v3, rfl, O3⟩; replace O3 := O3.low (show w.heap.size ≤ _ from f.size); replace ch := q.cell ch; replace c2 := q.cell c2; replace c7 := q.cell c7; replace f := f.trans q; clear tok8))
    have hL : nodeL n = (le n.ty 1 ++ le n.par 4 ++ le n.size 4 ++ le n.mode 2 ++ le n.stamp 8 ++ le n.shadow 4) ++ (le n.name.size 1 ++ bytesI n.name) ++ (le n.tgt.size 1 ++ bytesI n.tgt) := by unfold nodeL; simp only [List.append_assoc]
    rw [← hL] at O3
    go_wp2
    refine bodyPost_ret (results_tmp2 rfl _ _ _) rfl ⟨f, _, by rw [hc]; rfl, ?_⟩
    rw [HP.out]
    exact O3
end Go.Proofs.YtefkklgelmbaiaaDoor
