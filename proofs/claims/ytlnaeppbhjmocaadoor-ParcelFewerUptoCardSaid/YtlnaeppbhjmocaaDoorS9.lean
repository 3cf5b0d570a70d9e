/- A file's data cut and read again (plain). -/
import Derived.Test.YtlnaeppbhjmocaaDoorS8
import Derived.ArgAppend
import Derived.Laws.Cover1
set_option linter.unusedSectionVars false
set_option linter.unnecessarySimpa false
set_option linter.unusedSimpArgs false
set_option linter.unusedVariables false
set_option linter.unusedSimpArgs false
set_option linter.unusedVariables false
namespace Go.Proofs.YtlnaeppbhjmocaaDoor
open Go.RowKit Go.Proofs Go.Proofs.YtlnaeppbhjmocaaDoorW.PrintWords Go.Proofs.YtlnaeppbhjmocaaDoorW.PrintLast Go.Proofs.YtlnaeppbhjmocaaDoorW.PrintMore

/-- a row: full and not the call's own, or the call's own -/
def RowF (w wc : World) (A : Addr) (xs : List Int) (a : Option Addr) (d : Nat) (zs : List Int) : Prop :=
  (a = some A ∧ d = xs.length ∧ zs = xs ∧ BytesAt wc a zs) ∨ OwnB wc w.heap.size (.slice a zs.length d) zs
set_option maxRecDepth 100000 in
theorem rowF_append {w wc : World} {A : Addr} {xs : List Int} {a : Option Addr} {d : Nat} {zs : List Int} (h : RowF w wc A xs a d zs) (hg : w.grownBy wc none) (y : Int) (hl : zs.length ≤ 1099511627000) :
    ∃ w1 v' w', wc.alloc (.cells #[.int .u8 y] 5) = w1 ∧ (Builtin.append_ #[22, 22] 22 #[.slice a zs.length d, .slice (some ⟨wc.heap.size, 0, none⟩) 1 1]).run Tryd.prog w1 = .ok v' w' ∧ OwnB w' w.heap.size v' (zs ++ [y]) ∧ w.grownBy w' none := by
  have hsz := hg.size
  rcases h with ⟨rfl, rfl, rfl, hB⟩ | h
  · obtain ⟨i, hi, hz, hs, hby⟩ := info_byte
    have ga : wc.grownBy (wc.alloc (.cells #[.int .u8 y] 5)) none := World.grownBy_alloc _ _ none
    have hB1 : BytesAt (wc.alloc (.cells #[.int .u8 y] 5)) (some A) zs := hB.grown ga (fun a e => by simp)
    have holds : ∀ j u, (zs.map (Value.int .u8))[j]? = some u → (wc.alloc (.cells #[.int .u8 y] 5)).cell? (A.add j) = some u := by
      intro j u hj
      rw [List.getElem?_map, Option.map_eq_some_iff] at hj
      obtain ⟨x, hx, rfl⟩ := hj
      rcases hB1 with h | ⟨g, o, e, _, h⟩
      · rw [h] at hx; simp at hx
      · injection e with e
        subst e
        rw [Lib.add_plain]
        exact h j x hx
    have hnews : ∀ j u, [Value.int .u8 y][j]? = some u → (wc.alloc (.cells #[.int .u8 y] 5)).cell? ((⟨wc.heap.size, 0, none⟩ : Addr).add j) = some u := cell_one_new _ _ _
    obtain ⟨v', w', hr, h2, h3⟩ := run_append_arg_grows (P := Tryd.prog) (w := wc.alloc (.cells #[.int .u8 y] 5)) 22 22 5 i (.int .u8 0) 1 1 Tryd.underlying22 hi hz hs hby rfl (by decide) A zs.length zs.length (zs.map (Value.int .u8)) (by simp) holds ⟨wc.heap.size, 0, none⟩ 1 1 [.int .u8 y] rfl hnews (by omega) (by unfold maxLen; omega) (by omega)
    refine ⟨_, v', w', rfl, hr, ?_, grown_trans hg (grown_trans ga h3)⟩
    unfold OwnB
    rw [List.length_append, List.map_append]
    obtain ⟨q1, q2⟩ := h2
    refine ⟨by simpa using q1, ?_⟩
    rcases q2 with q2 | ⟨g', cap, cur, e1, e2, r⟩
    · exact .inl (by simpa using q2)
    · exact .inr ⟨g', cap, cur, e1, Nat.le_trans hsz (Nat.le_trans ga.size e2), by simpa using r⟩
  · obtain ⟨w1, v', w', h1, h2, h3, h4, h5⟩ := append_lit 22 w.heap.size a d zs [y] wc h (by simp; omega) hsz
    refine ⟨w1, v', w', h1, h2, h3, ?_⟩
    exact grown_own hg h4 (fun i e => (World.ownsRow.lt h i e).1)
set_option maxHeartbeats 3200000 in
set_option maxRecDepth 100000 in
theorem put_first (A : Addr) (xs : List Int) (x : Int) (n : Nat) (h0 : 0 ≤ x) (hx : x ≤ 18446744073709551615) (hn : 0 < n) (hn8 : n ≤ 8) (w : World) (hw : Ok w) (hO : BytesAt w (some A) xs) (hl : xs.length ≤ 1048576) :
    Calls Tryd.prog 39 #[.slice (some A) xs.length xs.length, .int .u64 x, .int .i64 n] w fun e w' => ∃ a d, e = .returned (.slice a (xs ++ le x n).length d) ∧ OwnB w' w.heap.size (.slice a (xs ++ le x n).length d) (xs ++ le x n) ∧ w.grownBy w' none := by
  have HO := Lib.hid hO
  have HN := Lib.hid hn
  clear hO
  go_enter Tryd.func39, Tryd.ntmps39
  go_wp2_with fail
  go_loopg [0, 1, 8] n (fun k v0 v1 v8 wc => ∃ (i : Nat) (y : Int) (zs : List Int) (a : Option Addr) (d : Nat), i + k = n ∧ v0 = .slice a zs.length d ∧ v1 = .int .u64 y ∧ v8 = .int .i64 i ∧ 0 ≤ y ∧ y ≤ 18446744073709551615 ∧ zs.length = xs.length + i ∧ Hid (zs ++ le y k = xs ++ le x n) ∧ Hid (RowF w wc A xs a d zs) ∧ Hid (w.grownBy wc none))
  case atStart => exact ⟨0, x, xs, some A, xs.length, by omega, rfl, rfl, rfl, h0, hx, by omega, Lib.hid rfl, Lib.hid (.inl ⟨rfl, rfl, rfl, HO.out⟩), Lib.hid (grown_refl w _)⟩
  case round =>
    obtain ⟨i, y, zs, a, d, hik, rfl, rfl, rfl, hy0, hy1, hzl, HE, O, G⟩ := hrel
    cases gk with
    | zero =>
      obtain rfl : i = n := by omega
      have d1 : decide ((i : Int) < (i : Int)) = false := decide_eq_false (by omega)
      have he : zs = xs ++ le x i := by have := HE.out; simpa [le] using this
      subst he
      go_wp2
      go_ret
      refine ⟨a, d, rfl, ?_, G.out⟩
      rcases O.out with ⟨_, _, h, _⟩ | h
      · have := congrArg List.length h
        rw [List.length_append, le_length] at this
        have := HN.out
        omega
      · exact h
    | succ k =>
      have d1 : decide ((i : Int) < (n : Int)) = true := decide_eq_true (by omega)
      have w8 : IntKind.u8.wrap y = y % 256 := by rw [IntKind.wrap_u8]
      obtain ⟨w3, v5, w5, hw3, hap, O5, q5⟩ := rowF_append O.out G.out (y % 256) (by omega)
      obtain ⟨g3, hg3⟩ : ∃ g, wr.heap.size = g := ⟨_, rfl⟩
      rw [hg3] at hap
      obtain ⟨a5, d5, hv5⟩ := O5.form
      subst hv5
      obtain ⟨z5, hz5⟩ : ∃ z, zs ++ [y % 256] = z := ⟨_, rfl⟩
      rw [hz5] at O5 hap
      have HZ := Lib.hid hz5
      have HO5 := Lib.hid O5
      have HQ := Lib.hid q5
      clear O5 hz5 q5
      go_wp2_with (at_builtin; refine wpList_append_run rfl _ _ 22 22 rfl (by simp [Act.eval]) (by simp [Act.eval]) hap ?_)
      go_roundg k
      case measure => omega
      case rel =>
        refine ⟨i + 1, y / 256, z5, a5, d5, by omega, rfl, rfl, by go_num, by omega, by omega, by rw [← HZ.out]; simp [hzl]; omega, Lib.hid ?_, Lib.hid (.inr HO5.out), HQ⟩
        have := HE.out
        simp only [le] at this
        rw [← HZ.out]
        simpa using this
end Go.Proofs.YtlnaeppbhjmocaaDoor
set_option linter.unusedSimpArgs false
set_option linter.unusedVariables false
namespace Go.Proofs.YtlnaeppbhjmocaaDoor
open Go.RowKit Go.Proofs Go.Proofs.YtlnaeppbhjmocaaDoorW.PrintWords Go.Proofs.YtlnaeppbhjmocaaDoorW.PrintMore

theorem edrop (l : List ByteArray) (i : Nat) (h : i < l.length) : l.drop i = l[i] :: l.drop (i + 1) := List.drop_eq_getElem_cons h
end Go.Proofs.YtlnaeppbhjmocaaDoor
namespace Go.Proofs.YtlnaeppbhjmocaaDoor.Pfollows
open Go.RowKit Go.Proofs.YtlnaeppbhjmocaaDoorW.PrintWords Go.Proofs.YtlnaeppbhjmocaaDoorW.PrintLast Go.Proofs.YtlnaeppbhjmocaaDoorW.PrintMore
attribute [local go_sem] max2_int min2_int max_two min_two max_three min_three max_four min_four   -- for this text's walks alone
set_option linter.unusedVariables false
set_option linter.unusedSimpArgs false

/-! ### parcel_follows: function 48 -/
mutual
def parcel_follows.j1 : Nat → List ByteArray → List ByteArray → Int → Option (Int × Bool)
  | 0, _, _, _ => none
  | k + 1, x0, x1, x6 => if x6 = (x1.length : Int) then (some (x6, false)) else (if x6 = (x0.length : Int) then (some (x6, true)) else (if 0 ≤ x6 then (if x6 < (x1.length : Int) then (if x6 < (x0.length : Int) then (some (x6, (Op.bytesLess ((rdOf ByteArray.empty x0 x6).toList) ((rdOf ByteArray.empty x1 x6).toList)))) else (none)) else (none)) else (none)))
def parcel_follows.l0 : Nat → List ByteArray → List ByteArray → Int → Option (Int × Bool)
  | 0, _, _, _ => none
  | k + 1, x0, x1, x6 => if x6 < (x0.length : Int) then (if x6 < (x1.length : Int) then (if 0 ≤ x6 then (if (rdOf ByteArray.empty x0 x6).toList = (rdOf ByteArray.empty x1 x6).toList then (parcel_follows.l0 k x0 x1 (wrap64 (x6 + 1))) else (parcel_follows.j1 k x0 x1 x6)) else (none)) else (parcel_follows.j1 k x0 x1 x6)) else (parcel_follows.j1 k x0 x1 x6)
end
def parcel_follows.f (k : Nat) (l0 : List ByteArray) (l1 : List ByteArray) : Option (Int × Bool) := parcel_follows.l0 k l0 l1 0
theorem parcel_follows.mono_l : ∀ k, (∀ y0 y1 y2, LeO (parcel_follows.j1 k y0 y1 y2) (parcel_follows.j1 (k + 1) y0 y1 y2)) ∧ (∀ y0 y1 y2, LeO (parcel_follows.l0 k y0 y1 y2) (parcel_follows.l0 (k + 1) y0 y1 y2))
  | 0 => ⟨fun _ _ _ r h => by simp [parcel_follows.j1] at h, fun _ _ _ r h => by simp [parcel_follows.l0] at h⟩
  | k + 1 => by
    obtain ⟨ih0, ih1⟩ := parcel_follows.mono_l k
    refine ⟨?_, ?_⟩
    · intro y0 y1 y2
      unfold parcel_follows.j1
      repeat' first
      | (with_reducible exact ih0 _ _ _)
      | (with_reducible exact ih1 _ _ _)
      | (with_reducible exact LeO.refl _)
      | (with_reducible exact LeO.none _)
      | (with_reducible refine LeO.ite ?_ ?_)
      | (with_reducible refine LeO.bind ?_ (fun _ => ?_))
      | exact ih0 _ _ _
      | exact ih1 _ _ _
      | exact LeO.none _
      | refine LeO.ite ?_ ?_
      | refine LeO.bind ?_ (fun _ => ?_)
    · intro y0 y1 y2
      unfold parcel_follows.l0
      repeat' first
      | (with_reducible exact ih0 _ _ _)
      | (with_reducible exact ih1 _ _ _)
      | (with_reducible exact LeO.refl _)
      | (with_reducible exact LeO.none _)
      | (with_reducible refine LeO.ite ?_ ?_)
      | (with_reducible refine LeO.bind ?_ (fun _ => ?_))
      | exact ih0 _ _ _
      | exact ih1 _ _ _
      | exact LeO.none _
      | refine LeO.ite ?_ ?_
      | refine LeO.bind ?_ (fun _ => ?_)
theorem parcel_follows.mono : ∀ a0 a1 k, LeO (parcel_follows.f k a0 a1) (parcel_follows.f (k + 1) a0 a1) := by
  intro a0 a1 k
  obtain ⟨ih0, ih1⟩ := parcel_follows.mono_l k
  unfold parcel_follows.f
  repeat' first
      | (with_reducible exact ih0 _ _ _)
      | (with_reducible exact ih1 _ _ _)
      | (with_reducible exact LeO.refl _)
      | (with_reducible exact LeO.none _)
      | (with_reducible refine LeO.ite ?_ ?_)
      | (with_reducible refine LeO.bind ?_ (fun _ => ?_))
      | exact ih0 _ _ _
      | exact ih1 _ _ _
      | exact LeO.none _
      | refine LeO.ite ?_ ?_
      | refine LeO.bind ?_ (fun _ => ?_)
theorem bl_eq2 : ∀ (x y : List UInt8), Op.bytesLess x y = decide (x < y)
  | [], [] => by simp [Op.bytesLess]
  | [], _ :: _ => by simp [Op.bytesLess]
  | _ :: _, [] => by simp [Op.bytesLess]
  | a :: x, b :: y => by
    rw [Op.bytesLess, bl_eq2 x y, Bool.eq_iff_iff]
    simp [List.cons_lt_cons_iff]
theorem bl_tot : ∀ x y : List UInt8, Op.bytesLess x y = false → x ≠ y → Op.bytesLess y x = true
  | [], [], _, h => absurd rfl h
  | [], _ :: _, h, _ => by simp [Op.bytesLess] at h
  | _ :: _, [], _, _ => by simp [Op.bytesLess]
  | a :: x, b :: y, h, hne => by
    simp only [Op.bytesLess, Bool.or_eq_false_iff, decide_eq_false_iff_not, Bool.and_eq_false_iff, beq_eq_false_iff_ne] at h
    simp only [Op.bytesLess, Bool.or_eq_true, decide_eq_true_eq, Bool.and_eq_true, beq_iff_eq]
    by_cases e : a = b
    · right
      refine ⟨e.symm, bl_tot x y ?_ (fun e2 => hne (by rw [e, e2]))⟩
      rcases h.2 with h2 | h2
      · exact absurd e h2
      · exact h2
    · left
      exact UInt8.lt_of_le_of_ne (UInt8.not_lt.mp h.1) (fun e2 => e e2.symm)
theorem gt_flip (a b : ByteArray) : (!(Op.bytesLess a.toList b.toList || a.toList == b.toList)) = Op.bytesLess b.toList a.toList := by
  rw [Bool.eq_iff_iff]
  simp only [Bool.not_eq_true', Bool.or_eq_false_iff, beq_eq_false_iff_ne]
  constructor
  · rintro ⟨h1, h2⟩
    exact bl_tot _ _ h1 h2
  · intro h
    rw [bl_eq2, decide_eq_true_eq] at h
    rw [bl_eq2, decide_eq_false_iff_not]
    exact ⟨List.lt_asymm h, fun e => List.lt_irrefl _ (by rw [e] at h; exact h)⟩
set_option maxHeartbeats 8000000 in
set_option maxRecDepth 100000 in
theorem parcel_follows.calls (k : Nat) (A0 : Option Addr) (c0 : Nat) (l0 : List ByteArray) (A1 : Option Addr) (c1 : Nat) (l1 : List ByteArray) (r1 : Int) (r2 : Bool) (w : World) (hr0 : Kd.C Kd.string w A0 l0.length l0) (hc0 : l0.length ≤ c0) (hr1 : Kd.C Kd.string w A1 l1.length l1) (hc1 : l1.length ≤ c1) (h : parcel_follows.f k l0 l1 = some (r1, r2)) :
    Calls Tryd.prog 48 #[.slice A0 l0.length c0, .slice A1 l1.length c1] w fun e w' => e = .returned (.tuple #[.int .i64 r1, .bool r2]) ∧ Drawn0 w w' := by
  have HR0 := Aside0.mk hr0
  have HC0 := Aside0.mk hc0
  clear hr0 hc0
  have HR1 := Aside0.mk hr1
  have HC1 := Aside0.mk hc1
  clear hr1 hc1
  have H : (parcel_follows.l0 k l0 l1 0) = some (r1, r2) := h
  clear h
  have HC3 := Aside0.mk H
  clear H
  go_enter Tryd.func48, Tryd.ntmps48
  go_upto_block 0 with (fail)
  repeat (go_quiet (fail); go_upto_block 0 with (fail))
  go_cut [6] (fun v6 wc => ∃ (kq : Nat) (x6_2 : Int), v6 = .int .i64 x6_2 ∧ Aside0 (parcel_follows.j1 kq l0 l1 x6_2 = some (r1, r2)) ∧ Aside0 (kq ≤ k) ∧ Drawn0 w wc)
  case first =>
    have H := HC3.out
    clear HC3
    have H' := Aside0.mk H
    clear H
    go_wp2
    repeat (go_quiet (fail); try go_wp2)
    go_loopg [6] k (fun kq v6 w' => ∃ (x6_1 : Int), v6 = .int .i64 x6_1 ∧ Aside0 (parcel_follows.l0 kq l0 l1 x6_1 = some (r1, r2)) ∧ Aside0 (kq ≤ k) ∧ Drawn0 w w')
    case atStart => exact ⟨(0), (by first | rfl | (simp; done) | (simp [*]; done)), H', ⟨Nat.le_refl _⟩, by repeat (first | exact Drawn0.refl _ | apply Drawn0.step)⟩
    case round =>
      clear H'
      try clear c1
      try clear p2
      obtain ⟨x6_1, rfl, HA, HK1, ⟨m1, rfl⟩⟩ := hrel
      cases gk with
      | zero => exact absurd HA.out (by simp [parcel_follows.l0])
      | succ k1 =>
        have H := HA.out
        clear HA
        simp only [parcel_follows.l0] at H
        by_cases c4 : x6_1 < (l0.length : Int)
        · rw [if_pos c4] at H
          have c4b0 : decide (x6_1 < (l0.length : Int)) = true := decide_eq_true c4
          clear c4
          (first | rw [c4b0] | (simp only [i64_w, i32_w]; rw [c4b0]) | skip)
          by_cases c5 : x6_1 < (l1.length : Int)
          · rw [if_pos c5] at H
            have c5b0 : decide (x6_1 < (l1.length : Int)) = true := decide_eq_true c5
            clear c5
            by_cases c6 : 0 ≤ x6_1
            · rw [if_pos c6] at H
              have c6b0 : decide (0 ≤ x6_1) = true := decide_eq_true c6
              clear c6
              by_cases c7 : (rdOf ByteArray.empty l0 x6_1).toList = (rdOf ByteArray.empty l1 x6_1).toList
              · rw [if_pos c7] at H
                have c7b0 : ((rdOf ByteArray.empty l0 x6_1).toList == (rdOf ByteArray.empty l1 x6_1).toList) = true := beq_iff_eq.mpr c7
                have c7b1 : ((rdOf ByteArray.empty l0 x6_1).toList != (rdOf ByteArray.empty l1 x6_1).toList) = false := bne_eq_false_iff_eq.mpr c7
                clear c7
                have H' := Aside0.mk H
                clear H
                have p101 : 0 ≤ (x6_1 : Int) := of_decide_eq_true (by first | (with_reducible assumption) | assumption)
                have q101 : x6_1 < (l0.length : Int) := of_decide_eq_true (by first | (with_reducible assumption) | assumption)
                obtain ⟨ad101, e101, hx101_0⟩ := Kd.at_string HR0.out x6_1 p101 q101
                cases e101
                replace p101 := eq_true p101
                replace q101 := eq_true q101
                have p102 : 0 ≤ (x6_1 : Int) := of_decide_eq_true (by first | (with_reducible assumption) | assumption)
                have q102 : x6_1 < (l1.length : Int) := of_decide_eq_true (by first | (with_reducible assumption) | assumption)
                obtain ⟨ad102, e102, hx102_0⟩ := Kd.at_string HR1.out x6_1 p102 q102
                cases e102
                replace p102 := eq_true p102
                replace q102 := eq_true q102
                go_wp2
                repeat (go_quiet (fail); try go_wp2)
                go_roundg k1
                case measure => have := HK1.out; omega
                case rel => exact ⟨(wrap64 (x6_1 + 1)), (by first | rfl | (simp; done) | (simp [*]; done)), H', ⟨by have := HK1.out; omega⟩, by repeat (first | exact Drawn0.refl _ | apply Drawn0.step)⟩
              · rw [if_neg c7] at H
                have c7b0 : ((rdOf ByteArray.empty l0 x6_1).toList == (rdOf ByteArray.empty l1 x6_1).toList) = false := beq_eq_false_iff_ne.mpr c7
                have c7b1 : ((rdOf ByteArray.empty l0 x6_1).toList != (rdOf ByteArray.empty l1 x6_1).toList) = true := bne_iff_ne.mpr c7
                have H' := Aside0.mk H
                clear H
                have p101 : 0 ≤ (x6_1 : Int) := of_decide_eq_true (by first | (with_reducible assumption) | assumption)
                have q101 : x6_1 < (l0.length : Int) := of_decide_eq_true (by first | (with_reducible assumption) | assumption)
                obtain ⟨ad101, e101, hx101_0⟩ := Kd.at_string HR0.out x6_1 p101 q101
                cases e101
                replace p101 := eq_true p101
                replace q101 := eq_true q101
                have p102 : 0 ≤ (x6_1 : Int) := of_decide_eq_true (by first | (with_reducible assumption) | assumption)
                have q102 : x6_1 < (l1.length : Int) := of_decide_eq_true (by first | (with_reducible assumption) | assumption)
                obtain ⟨ad102, e102, hx102_0⟩ := Kd.at_string HR1.out x6_1 p102 q102
                cases e102
                replace p102 := eq_true p102
                replace q102 := eq_true q102
                go_wp2
                repeat (go_quiet (fail); try go_wp2)
                go_meet
                case rel => exact ⟨_, (x6_1), (by first | rfl | (simp; done) | (simp [*]; done)), H', ⟨by have := HK1.out; first | omega | exact Nat.le_refl _⟩, by repeat (first | exact Drawn0.refl _ | apply Drawn0.step)⟩
            · rw [if_neg c6] at H
              exact absurd H (by simp)
          · rw [if_neg c5] at H
            have c5b0 : decide (x6_1 < (l1.length : Int)) = false := decide_eq_false c5
            clear c5
            have H' := Aside0.mk H
            clear H
            go_wp2
            repeat (go_quiet (fail); try go_wp2)
            go_meet
            case rel => exact ⟨_, (x6_1), (by first | rfl | (simp; done) | (simp [*]; done)), H', ⟨by have := HK1.out; first | omega | exact Nat.le_refl _⟩, by repeat (first | exact Drawn0.refl _ | apply Drawn0.step)⟩
        · rw [if_neg c4] at H
          have c4b0 : decide (x6_1 < (l0.length : Int)) = false := decide_eq_false c4
          clear c4
          (first | rw [c4b0] | (simp only [i64_w, i32_w]; rw [c4b0]) | skip)
          have H' := Aside0.mk H
          clear H
          go_wp2
          repeat (go_quiet (fail); try go_wp2)
          go_meet
          case rel => exact ⟨_, (x6_1), (by first | rfl | (simp; done) | (simp [*]; done)), H', ⟨by have := HK1.out; first | omega | exact Nat.le_refl _⟩, by repeat (first | exact Drawn0.refl _ | apply Drawn0.step)⟩
  case rest =>
    clear HC3
    try clear c1
    try clear p1
    try clear q1
    try clear hx1
    try clear p2
    try clear c4
    try clear c4b0
    try clear c5
    try clear c5b0
    try clear c6
    try clear c6b0
    try clear p6
    try clear c7
    try clear c7b0
    try clear c7b1
    try clear hx101_0
    try clear hx102_0
    try clear p101
    try clear p102
    try clear p2
    try clear q101
    try clear q102
    obtain ⟨kq, x6_2, rfl, HA, HJ2, ⟨mc2, rfl⟩⟩ := hcut
    cases kq with
    | zero => exact absurd HA.out (by simp [parcel_follows.j1])
    | succ kj2 =>
      have H := HA.out
      clear HA
      simp only [parcel_follows.j1] at H
      by_cases c8 : x6_2 = (l1.length : Int)
      · rw [if_pos c8] at H
        have c8b0 : (x6_2 == (l1.length : Int)) = true := beq_iff_eq.mpr c8
        have c8b1 : (x6_2 != (l1.length : Int)) = false := bne_eq_false_iff_eq.mpr c8
        clear c8
        simp only [Option.some.injEq, Prod.mk.injEq] at H
        obtain ⟨rfl, rfl⟩ := H
        go_wp2
        repeat (go_quiet (fail); try go_wp2)
        go_ret2
        exact ⟨by first | rfl | (simp; done) | (simp [*]; done), by repeat (first | exact Drawn0.refl _ | apply Drawn0.step)⟩
      · rw [if_neg c8] at H
        have c8b0 : (x6_2 == (l1.length : Int)) = false := beq_eq_false_iff_ne.mpr c8
        have c8b1 : (x6_2 != (l1.length : Int)) = true := bne_iff_ne.mpr c8
        by_cases c9 : x6_2 = (l0.length : Int)
        · rw [if_pos c9] at H
          have c9b0 : (x6_2 == (l0.length : Int)) = true := beq_iff_eq.mpr c9
          have c9b1 : (x6_2 != (l0.length : Int)) = false := bne_eq_false_iff_eq.mpr c9
          clear c9
          simp only [Option.some.injEq, Prod.mk.injEq] at H
          obtain ⟨rfl, rfl⟩ := H
          go_wp2
          repeat (go_quiet (fail); try go_wp2)
          go_ret2
          exact ⟨by first | rfl | (simp; done) | (simp [*]; done), by repeat (first | exact Drawn0.refl _ | apply Drawn0.step)⟩
        · rw [if_neg c9] at H
          have c9b0 : (x6_2 == (l0.length : Int)) = false := beq_eq_false_iff_ne.mpr c9
          have c9b1 : (x6_2 != (l0.length : Int)) = true := bne_iff_ne.mpr c9
          by_cases c10 : 0 ≤ x6_2
          · rw [if_pos c10] at H
            have c10b0 : decide (0 ≤ x6_2) = true := decide_eq_true c10
            clear c10
            by_cases c11 : x6_2 < (l1.length : Int)
            · rw [if_pos c11] at H
              have c11b0 : decide (x6_2 < (l1.length : Int)) = true := decide_eq_true c11
              clear c11
              by_cases c12 : x6_2 < (l0.length : Int)
              · rw [if_pos c12] at H
                have c12b0 : decide (x6_2 < (l0.length : Int)) = true := decide_eq_true c12
                clear c12
                simp only [Option.some.injEq, Prod.mk.injEq] at H
                obtain ⟨rfl, rfl⟩ := H
                have p103 : 0 ≤ (x6_2 : Int) := of_decide_eq_true (by first | (with_reducible assumption) | assumption)
                have q103 : x6_2 < (l1.length : Int) := of_decide_eq_true (by first | (with_reducible assumption) | assumption)
                obtain ⟨ad103, e103, hx103_0⟩ := Kd.at_string HR1.out x6_2 p103 q103
                cases e103
                replace p103 := eq_true p103
                replace q103 := eq_true q103
                have p104 : 0 ≤ (x6_2 : Int) := of_decide_eq_true (by first | (with_reducible assumption) | assumption)
                have q104 : x6_2 < (l0.length : Int) := of_decide_eq_true (by first | (with_reducible assumption) | assumption)
                obtain ⟨ad104, e104, hx104_0⟩ := Kd.at_string HR0.out x6_2 p104 q104
                cases e104
                replace p104 := eq_true p104
                replace q104 := eq_true q104
                have hgf := gt_flip (rdOf ByteArray.empty l1 x6_2) (rdOf ByteArray.empty l0 x6_2)
                go_wp2
                repeat (go_quiet (fail); try go_wp2)
                go_ret2
                exact ⟨by first | rfl | (simp; done) | (simp [*]; done), by repeat (first | exact Drawn0.refl _ | apply Drawn0.step)⟩
              · rw [if_neg c12] at H
                exact absurd H (by simp)
            · rw [if_neg c11] at H
              exact absurd H (by simp)
          · rw [if_neg c10] at H
            exact absurd H (by simp)

end Go.Proofs.YtlnaeppbhjmocaaDoor.Pfollows
set_option linter.unusedSimpArgs false
set_option linter.unusedVariables false
namespace Go.Proofs.YtlnaeppbhjmocaaDoor
open Go.RowKit Go.Proofs Go.Proofs.YtlnaeppbhjmocaaDoorW.PrintWords Go.Proofs.YtlnaeppbhjmocaaDoorW.PrintLast Go.Proofs.YtlnaeppbhjmocaaDoorW.PrintMore

theorem SRow.toC {w : World} {A : Option Addr} {L : List ByteArray} (h : SRow w A L) (hn : L.length ≤ 1099511627776) : Kd.C Kd.string w A L.length L := by
  refine ⟨rfl, by omega, fun h0 => ?_⟩
  obtain ⟨g, hA, _⟩ := h 0 h0
  refine ⟨_, hA, fun j p hj => ?_⟩
  refine ⟨[.string p], rfl, rfl, fun i u hu => ?_⟩
  have hi : i < 1 := (List.getElem?_eq_some_iff.1 hu).1
  obtain rfl : i = 0 := by omega
  simp only [List.getElem?_cons_zero, Option.some.injEq] at hu
  subst hu
  have hsz : Kd.string.sz = 1 := rfl
  rw [hsz, Lib.add_plain, Nat.mul_one, Nat.add_zero, Nat.zero_add]
  obtain ⟨hj1, hj2⟩ := List.getElem?_eq_some_iff.1 hj
  obtain ⟨g', hA', hc⟩ := h j hj1
  rw [hA] at hA'
  injection hA' with hA'
  injection hA' with hA'
  rw [hA', hc, hj2]
theorem bytes_eq (a b : ByteArray) : (a.toList = b.toList) ↔ a = b := by
  rw [toL, toL]; exact ⟨bs_ext, fun e => by rw [e]⟩
theorem follows_l0 (a b : List ByteArray) (ha : a.length ≤ 1048576) (hb : b.length ≤ 1048576) : ∀ (d k i : Nat), i + d = a.length → d + 2 ≤ k → i ≤ b.length →
    Pfollows.parcel_follows.l0 k a b (i : Int) = some (((i + sharedX (a.drop i) (b.drop i) : Nat) : Int), behindX ltB (a.drop i) (b.drop i)) := by
  intro d
  induction d with
  | zero =>
    intro k i h hk hi
    obtain ⟨k, rfl⟩ : ∃ m, k = m + 2 := ⟨k - 2, by omega⟩
    rw [Pfollows.parcel_follows.l0, if_neg (by omega), Pfollows.parcel_follows.j1, List.drop_eq_nil_of_le (show a.length ≤ i by omega)]
    by_cases hlt : i < b.length
    · rw [if_neg (by omega), if_pos (by omega), edrop b i hlt]; rfl
    · rw [if_pos (by omega), List.drop_eq_nil_of_le (by omega)]; rfl
  | succ d ih =>
    intro k i h hk hi
    obtain ⟨k, rfl⟩ : ∃ m, k = m + 2 := ⟨k - 2, by omega⟩
    rw [Pfollows.parcel_follows.l0, if_pos (by omega), edrop a i (by omega)]
    by_cases hlt : i < b.length
    · have w1 : wrap64 ((i : Int) + 1) = ((i + 1 : Nat) : Int) := by rw [wr64 ⟨by omega, by omega⟩]; omega
      rw [if_pos (by omega), if_pos (by omega), rdOf_nat a i (by omega), rdOf_nat b i hlt, edrop b i hlt, behindX, sharedX, w1]
      by_cases he : a[i] = b[i]
      · rw [if_pos ((bytes_eq _ _).2 he), if_pos he, if_pos he, ih (k + 1) (i + 1) (by omega) (by omega) (by omega)]
        congr 3
        omega
      · rw [if_neg (fun e => he ((bytes_eq _ _).1 e)), if_neg he, if_neg he, Pfollows.parcel_follows.j1, if_neg (by omega), if_neg (by omega), if_pos (by omega), if_pos (by omega), if_pos (by omega), rdOf_nat a i (by omega), rdOf_nat b i hlt]
        rfl
    · rw [if_neg (by omega), Pfollows.parcel_follows.j1, if_pos (by omega), List.drop_eq_nil_of_le (show b.length ≤ i by omega), behindX]
      rfl
theorem follows_any (A1 A2 : Option Addr) (c1 c2 : Nat) (a b : List ByteArray) (ha : a.length ≤ 1048576) (hb : b.length ≤ 1048576) (w : World) (hw : Ok w) (h1 : SRow w A1 a) (hc1 : a.length ≤ c1) (h2 : SRow w A2 b) (hc2 : b.length ≤ c2) :
    Calls Tryd.prog 48 #[.slice A1 a.length c1, .slice A2 b.length c2] w fun e w' => e = .returned (.tuple #[.int .i64 ((sharedX a b : Nat) : Int), .bool (behindX ltB a b)]) ∧ Fr w w' := by
  have hf := follows_l0 a b ha hb a.length (a.length + 2) 0 (by omega) (by omega) (Nat.zero_le _)
  rw [List.drop_zero, List.drop_zero, Nat.zero_add] at hf
  exact (Pfollows.parcel_follows.calls (a.length + 2) A1 c1 a A2 c2 b _ _ w (h1.toC (by omega)) hc1 (h2.toC (by omega)) hc2 hf).mono fun e w' ⟨he, hd⟩ => ⟨he, Fr.of hw hd.below⟩
end Go.Proofs.YtlnaeppbhjmocaaDoor
set_option linter.unusedSimpArgs false
set_option linter.unusedVariables false
namespace Go.Proofs.YtlnaeppbhjmocaaDoor
open Go.RowKit Go.Proofs Go.Shelf

theorem packX_bad {x : Lf} {r : List Lf} (h1 : x.path.data.toList = [47]) (h2 : x.ty = 2) (h : okL x = false ∨ restB [] true r = false) : packX (x :: r) = ([], 191) := by
  unfold packX
  dsimp only
  rw [if_pos ⟨h1, h2⟩, if_neg]
  rintro ⟨h3, h4⟩
  rcases h with h | h
  · rw [h3] at h; cases h
  · rw [h4] at h; cases h
def bodyP (x : Lf) (r : List Lf) : List Int := headX x ++ r.flatMap (fun y => pieceB y (nmL y)) ++ [255]
theorem packX_good {x : Lf} {r : List Lf} (h1 : x.path.data.toList = [47]) (h2 : x.ty = 2) (h3 : okL x = true) (h4 : restB [] true r = true) : packX (x :: r) = (bodyP x r ++ le (crcI (bodyP x r)) 4, 0) := by
  unfold packX bodyP
  dsimp only
  rw [if_pos ⟨h1, h2⟩, if_pos ⟨h3, h4⟩]
theorem packX_head {x : Lf} {r : List Lf} (h : ¬ (x.path.data.toList = [47] ∧ x.ty = 2)) : packX (x :: r) = ([], 190) := by
  unfold packX
  dsimp only
  rw [if_neg h]
/-- the head as it is written ahead of any test -/
def headM (x : Lf) : List Int := [80, 82, 67, 76, 1] ++ le (IntKind.u64.wrap x.mode) 2 ++ le x.stamp 8
/-- how far the pieces are told -/
def PInv (x : Lf) (r : List Lf) (i : Nat) (ys : List Int) (ahead : List ByteArray) (dir : Bool) : Prop :=
  (i = 0 ∧ ahead = [] ∧ ys = headM x) ∨ (1 ≤ i ∧ okL x = true ∧ restB ahead dir ((x :: r).drop i) = restB [] true r ∧ ys ++ ((x :: r).drop i).flatMap (fun y => pieceB y (nmL y)) = headX x ++ r.flatMap (fun y => pieceB y (nmL y)) ∧ dir = decide (((x :: r).getD (i - 1) x).ty = 2))

theorem names_R {s : List UInt8} {ns : List ByteArray} {nb : Bool} (h : namesR s = (ns, nb)) : (namesP s).isSome = nb ∧ (namesP s).getD [] = ns := by
  unfold namesR at h
  cases hq : namesP s with
  | none => rw [hq] at h; injection h with h1 h2; subst h1 h2; exact ⟨rfl, rfl⟩
  | some l => rw [hq] at h; injection h with h1 h2; subst h1 h2; exact ⟨rfl, rfl⟩
theorem pinv_drop {x : Lf} {r : List Lf} {i : Nat} {l : Lf} (hl : (x :: r)[i]? = some l) : (x :: r).drop i = l :: (x :: r).drop (i + 1) := by
  obtain ⟨h1, h2⟩ := List.getElem?_eq_some_iff.1 hl
  rw [List.drop_eq_getElem_cons h1, h2]
theorem pinv_bad {x : Lf} {r : List Lf} {i : Nat} {ys : List Int} {ahead : List ByteArray} {dir : Bool} {l : Lf} (h : PInv x r i ys ahead dir) (hl : (x :: r)[i]? = some l) (h1 : x.path.data.toList = [47]) (h2 : x.ty = 2)
    (hb : (namesP l.path.data.toList).isSome = false ∨ okL l = false ∨ (1 ≤ i ∧ stepX ltB ahead dir (nmL l) = false)) : packX (x :: r) = ([], 191) := by
  rcases h with ⟨h0, _, _⟩ | ⟨h0, _, h4, _, _⟩
  · subst h0
    have hlx : x = l := by simpa using hl
    subst hlx
    rcases hb with hb | hb | hb
    · rw [h1] at hb
      have : namesP [47] = some [] := by decide
      rw [this] at hb; cases hb
    · exact packX_bad h1 h2 (.inl hb)
    · omega
  · refine packX_bad h1 h2 (.inr ?_)
    rw [← h4, pinv_drop hl, restB]
    rcases hb with hb | hb | hb
    · rw [hb]; rfl
    · rw [hb]; simp
    · rw [hb.2]; simp
theorem pinv_first {x : Lf} {r : List Lf} {ys : List Int} {ahead : List ByteArray} {dir : Bool} (h : PInv x r 0 ys ahead dir) (h2 : x.ty = 2) (hok : okL x = true) : PInv x r 1 ys [] true ∧ ahead = [] := by
  rcases h with ⟨_, h3, h4⟩ | ⟨h0, _⟩
  · refine ⟨.inr ⟨Nat.le_refl _, hok, rfl, ?_, ?_⟩, h3⟩
    · rw [h4]
      have hm := okL_ty hok
      have e : IntKind.u64.wrap x.mode = x.mode := u64_in ⟨by omega, by omega⟩
      unfold headM headX
      rw [e]
      rfl
    · simp [h2]
  · omega
theorem pinv_next {x : Lf} {r : List Lf} {i : Nat} {ys : List Int} {ahead : List ByteArray} {dir : Bool} {l : Lf} (h : PInv x r (i + 1) ys ahead dir) (hl : (x :: r)[i + 1]? = some l)
    (hn : (namesP l.path.data.toList).isSome = true) (hok : okL l = true) (hs : stepX ltB ahead dir (nmL l) = true) : PInv x r (i + 1 + 1) (ys ++ pieceB l (nmL l)) (nmL l) (decide (l.ty = 2)) := by
  rcases h with ⟨h0, _, _⟩ | ⟨h0, h3, h4, h5, h6⟩
  · omega
  · refine .inr ⟨by omega, h3, ?_, ?_, ?_⟩
    · rw [← h4, pinv_drop hl, restB, hn, hok, hs]; rfl
    · rw [← h5, pinv_drop hl, List.flatMap_cons]; simp
    · rw [show i + 1 + 1 - 1 = i + 1 by omega, List.getD, hl]; rfl
theorem bytesOk_app {a b : List Int} (ha : bytesOk a) (hb : bytesOk b) : bytesOk (a ++ b) := fun x hx => by
  rcases List.mem_append.1 hx with h | h
  · exact ha x h
  · exact hb x h
theorem bytesOk_one {v : Int} (h : 0 ≤ v ∧ v ≤ 255) : bytesOk [v] := fun x hx => by rw [List.mem_singleton.1 hx]; exact h
theorem bytesI_ok (s : ByteArray) : bytesOk (bytesI s) := by
  intro x hx
  obtain ⟨c, _, rfl⟩ := List.mem_map.mp hx
  have := c.toNat_lt
  omega
theorem stretB_ok {L : List Int} (hL : bytesOk L) : bytesOk ((stretX L).flatMap (stretB L)) := by
  intro x hx
  obtain ⟨s, hs, hx⟩ := List.mem_flatMap.1 hx
  have hm := stretS_mem L L.length 0 (Nat.zero_le _) s hs
  unfold stretB at hx
  rcases List.mem_cons.1 hx with h | h
  · rcases hm.1 with e | e <;> (rw [h, e]; decide)
  · rcases List.mem_append.1 h with h | h
    · exact le_mem _ 4 x h
    · split at h
      · exact (hL.drop _).take _ x h
      · cases h
theorem piece_ok {l : Lf} {ns : List ByteArray} (hok : okL l = true) (hd : bytesOk l.data) (h64 : ns.length ≤ 64) (hsz : (ns.getLastD ⟨#[]⟩).size ≤ 63) : bytesOk (pieceB l ns) ∧ (pieceB l ns).length ≤ 256 + 6 * l.data.length := by
  obtain ⟨t1, t3, m0, m1, dl, dnil, gnil, gok⟩ := okL_ty hok
  have hc := stretX_len l.data
  have htg : l.ty = 3 → l.tgt.size ≤ 127 := fun e => by
    have h := gok e
    unfold targetB at h
    simp only [Bool.and_eq_true, decide_eq_true_eq] at h
    exact h.1.2
  unfold pieceB pieceH pieceT
  constructor
  · refine bytesOk_app (bytesOk_app (bytesOk_app (bytesOk_app (bytesOk_app (fun x hx => ?_) (le_mem _ _)) (le_mem _ _)) (bytesOk_one (by omega))) (bytesI_ok _)) ?_
    · rcases List.mem_cons.1 hx with h | h
      · omega
      · rw [List.mem_singleton.1 h]; omega
    · split
      · unfold cutB; exact bytesOk_app (le_mem _ _) (stretB_ok hd)
      · split
        · rename_i h3
          have := htg h3
          exact bytesOk_app (bytesOk_one (by omega)) (bytesI_ok _)
        · exact fun x hx => by cases hx
  · have h9 : (if l.ty = 1 then cutB l.data else if l.ty = 3 then [(l.tgt.size : Int)] ++ bytesI l.tgt else []).length ≤ 132 + 6 * l.data.length := by
      split
      · unfold cutB; rw [List.length_append, le_length]; omega
      · split
        · rename_i h3
          have := htg h3
          rw [List.length_append, bytesI_length]; simp; omega
        · simp
    simp only [List.length_append, List.length_cons, List.length_nil, le_length, bytesI_length]
    omega
/-- a row of names lies elsewhere than bytes of the call's own -/
theorem SRow.grown {W W' : World} {na : Option Addr} {ns : List ByteArray} {B : Nat} {a : Option Addr} {d : Nat} {ys : List Int} (h : SRow W na ns) (O : OwnB W B (.slice a ys.length d) ys) (hy : 0 < ys.length) (q : W.grownBy W' (Value.slice a ys.length d).ownBlock) : SRow W' na ns := fun i hi => by
  obtain ⟨g, hA, hc⟩ := h i hi
  refine ⟨g, hA, q.cell hc (fun e => ?_)⟩
  obtain ⟨ga, ca, hv, _, _⟩ := O.blk hy
  obtain ⟨g2, hA2, hc2⟩ := h 0 (by omega)
  rw [hA] at hA2
  injection hA2 with hA2
  injection hA2 with hA2
  subst hA2
  injection hv with e1 e2 e3
  subst e1 e3
  have e4 : g = ga := by simpa [Value.ownBlock] using e
  subst e4
  have := O.cellAt 0 hy
  rw [hc2] at this
  cases this

set_option maxRecDepth 100000 in
set_option maxHeartbeats 3200000 in
theorem pack_anyG (G : Lf → Nat) (A : Option Addr) (c : Nat) (tv : List (Lf × Value)) (w : World) (hw : Ok w) (hT : LAt w A tv) (hc : tv.length ≤ c) (hn : tv.length ≤ 268435456) (hs : ∀ p ∈ tv, p.1.path.size ≤ 1048575) (hst : ∀ p ∈ tv, 0 ≤ p.1.stamp ∧ p.1.stamp ≤ 18446744073709551615)
    (hG : ∀ p ∈ tv, okL p.1 = true → (namesP p.1.path.data.toList).isSome = true → nmL p.1 ≠ [] → (pieceB p.1 (nmL p.1)).length ≤ G p.1) (hW : (tv.map fun p => G p.1).sum ≤ 536870912) (hbd : ∀ p ∈ tv, bytesOk p.1.data) (hB0 : 0 < w.heap.size) :
    Calls Tryd.prog 21 #[.slice A tv.length c] w fun e w' => ∃ v, e = .returned (.tuple #[v, .int .i64 (packX (tv.map Prod.fst)).2]) ∧ OwnB w' w.heap.size v (packX (tv.map Prod.fst)).1 ∧ Fr w w' := by
  cases tv with
  | nil =>
    go_enter Tryd.func21, Tryd.ntmps21
    go_wp2_with fail
    exact ⟨rfl, _, results_tmp2 rfl _ _ _, _, rfl, OwnB.nil _ _, Fr.refl hw⟩
  | cons p tl =>
    obtain ⟨n, hn'⟩ : ∃ n, (p :: tl).length = n := ⟨_, rfl⟩
    have hnt : n = tl.length + 1 := by rw [← hn']; simp
    obtain ⟨g, o, hA, hg, hcells⟩ := hT.1.resolve_left (by simp)
    subst hA
    obtain ⟨PP, hPP⟩ : ∃ PP, packX ((p :: tl).map Prod.fst) = PP := ⟨_, rfl⟩
    rw [hPP]
    rw [List.map_cons] at hPP
    rw [hn'] at hc hn ⊢
    have hcell : ∀ i q, (p :: tl)[i]? = some q → ∀ j v, (lcell q)[j]? = some v → w.cell? ⟨g, o + i * 6 + j, none⟩ = some v := fun i q hi j v hv => hcells i (lcell q) (by rw [List.getElem?_map, hi]; rfl) j v (by
      have h1 := (List.getElem?_eq_some_iff.1 hv).1
      have h2 : (lcell q).length = 6 := rfl
      omega) hv
    obtain ⟨x, pv⟩ := p
    have r0 : w.cell? ⟨g, o, none⟩ = some (.string x.path) := by have := hcell 0 (x, pv) rfl 0 _ rfl; simpa using this
    have r1 : w.cell? ⟨g, o + 1, none⟩ = some (.int .i64 x.ty) := by have := hcell 0 (x, pv) rfl 1 _ rfl; simpa using this
    have r2 : w.cell? ⟨g, o + 2, none⟩ = some (.int .i64 x.mode) := by have := hcell 0 (x, pv) rfl 2 _ rfl; simpa using this
    have r3 : w.cell? ⟨g, o + 3, none⟩ = some (.int .u64 x.stamp) := by have := hcell 0 (x, pv) rfl 3 _ rfl; simpa using this
    have d0 : ¬ ((n : Int) = 0) := by omega
    have d1 : (0 : Int) < (n : Int) := by omega
    have HPP := Lib.hid hPP
    clear hPP
    obtain ⟨bp, hbp⟩ : ∃ b : Bool, (x.path.toList == [47]) = b := ⟨_, rfl⟩
    have hbp2 : decide (x.path.data.toList = [47]) = bp := by rw [← hbp, toL, Bool.eq_iff_iff]; simp
    cases bp with
    | false =>
      have hPe : PP = ([], 190) := by rw [← HPP.out]; exact packX_head (fun e => by rw [decide_eq_true e.1] at hbp2; cases hbp2)
      subst hPe
      clear hbp2
      go_enter Tryd.func21, Tryd.ntmps21
      go_wp2_with fail
      exact ⟨rfl, _, results_tmp2 rfl _ _ _, _, rfl, OwnB.nil _ _, Fr.refl hw⟩
    | true =>
      have hp47 : x.path.data.toList = [47] := of_decide_eq_true hbp2
      clear hbp2
      by_cases ht2 : x.ty = 2
      · have HH := Lib.hid (And.intro hp47 ht2)
        have d2 : (x.ty != 2) = false := by simp [ht2]
        clear hp47 ht2
        go_enter Tryd.func21, Tryd.ntmps21
        go_upto_region 3 with fail
        have f0 := (Fr.refl hw).drew
        obtain ⟨wk, gk, hgk, hcv, fk, hgk2, Hk⟩ := head_row f0.ok
        have hBk : BytesAt wk (some ⟨gk, 0, none⟩) [80, 82, 67, 76, 1] := by
          refine .inr ⟨gk, 0, rfl, hgk2, fun i y hy => ?_⟩
          rw [Nat.zero_add]
          refine blk_cell Hk ?_
          have hi : i < 5 := (List.getElem?_eq_some_iff.1 hy).1
          rcases (by omega : i = 0 ∨ i = 1 ∨ i = 2 ∨ i = 3 ∨ i = 4) with rfl | rfl | rfl | rfl | rfl <;> (simp at hy; subst hy; rfl)
        have hmr : 0 ≤ IntKind.u64.wrap x.mode ∧ IntKind.u64.wrap x.mode ≤ 18446744073709551615 := by rw [IntKind.wrap_u64]; omega
        have hxs := hst (x, pv) List.mem_cons_self
        dsimp only at hxs
        have fk2 := f0.trans fk
        have HP1 := put_first ⟨gk, 0, none⟩ [80, 82, 67, 76, 1] (IntKind.u64.wrap x.mode) 2 hmr.1 hmr.2 (by decide) (by decide) wk fk2.ok hBk (by decide)
        obtain ⟨y1, hy1⟩ : ∃ y, [80, 82, 67, 76, 1] ++ le (IntKind.u64.wrap x.mode) 2 = y := ⟨_, rfl⟩
        have hl1 : y1.length = 7 := by rw [← hy1, List.length_append, le_length]; rfl
        rw [hy1] at HP1
        obtain ⟨M, hM⟩ : ∃ M, IntKind.u64.wrap x.mode = M := ⟨_, rfl⟩
        rw [hM] at HP1
        have HY1 := Lib.hid hy1
        have HL1 := Lib.hid hl1
        have HMM := Lib.hid hM
        clear hy1 hl1 hmr
        refine Reg.wp_region_late (fun w' => Fr w w') 13 [2, 3, 4, 5, 6, 8, 9, 10, 11] [0, 1, 7, 12, 13] (by kernel_rfl) (by kernel_rfl) f0 ?_
        obtain ⟨wd, hwd⟩ : ∃ wd, w.drew = wd := ⟨_, rfl⟩
        rw [hwd] at f0 hcv hgk fk ⊢
        clear hwd
        iterate 9
          refine Reg.wpLateT_step (v := ?_) rfl ?_ (fun w' hS => ?_) ?_
          rotate_left
          · simp [Region.wanted]
          · have s0 := hS.cell r0
            have s2 := hS.cell r2
            have s3 := hS.cell r3
            go_simp
            try (first | rfl | exact ⟨rfl, rfl⟩)
        refine Reg.wpMainT_run (v := (.slice (some ⟨gk, 0, none⟩) 5 5)) (w' := wd.alloc (.cells #[.int .u8 80, .int .u8 82, .int .u8 67, .int .u8 76, .int .u8 1] 5)) rfl (by simp [Region.wanted]) ?_ (.inr (f0.alloc _)) ?_
        · go_simp
          try (first | rfl | exact ⟨rfl, rfl⟩)
        refine Reg.wpMainT_run (v := (.slice (some ⟨gk, 0, none⟩) 5 5)) (w' := wk) rfl (by simp [Region.wanted]) ?_ (.inr fk2) ?_
        · go_simp
          try (first | rfl | exact ⟨rfl, rfl⟩)
        refine Reg.wpMainT_enter (fn := 39) (args := #[.slice (some ⟨gk, 0, none⟩) 5 5, .int .u64 M, .int .i64 2]) rfl (by simp [Region.wanted]) ?_ HP1 ?_
        · go_simp
          try (first | rfl | exact ⟨rfl, rfl⟩)
        rintro e w2 ⟨a2, d2, rfl, O2, q2⟩
        have f2 := fk2.trans (fr_of_grown fk2.ok q2)
        refine ⟨_, rfl, .inr f2, ?_⟩
        have hlow := fk2.size
        have O2' := O2.low hlow
        have HP2 := put_any w.heap.size a2 d2 y1 x.stamp 8 hxs.1 hxs.2 (by decide) w2 f2.ok O2' f2.size (by have := HL1.out; omega)
        obtain ⟨y2, hy2⟩ : ∃ y, y1 ++ le x.stamp 8 = y := ⟨_, rfl⟩
        have hl2 : y2.length = 15 := by rw [← hy2, List.length_append, le_length]; have := HL1.out; omega
        rw [hy2] at HP2
        have HY2 := Lib.hid hy2
        have HL2 := Lib.hid hl2
        clear hy2 hl2
        refine Reg.wpMainT_enter (fn := 39) (args := #[.slice a2 y1.length d2, .int .u64 x.stamp, .int .i64 8]) rfl (by simp [Region.wanted]) ?_ HP2 ?_
        · go_simp
          try (first | rfl | exact ⟨rfl, rfl⟩)
        rintro e w3 ⟨a3, d3, rfl, O3, q3, i3⟩
        have f3 : Fr w w3 := Fr.row f2 hw q3 (fun k e => (World.ownsRow.lt O2' k e).1)
        refine ⟨_, rfl, .inr f3, ?_⟩
        refine Reg.wpMainT_run (v := (.slice a3 y2.length d3)) (w' := w3) rfl (by simp [Region.wanted]) ?_ (.inl rfl) ?_
        · go_simp
          try (first | rfl | exact ⟨rfl, rfl⟩)
        refine Reg.wpMainT_nil ?_
        simp only [List.getElem_toArray, List.getElem_cons_succ, List.getElem_cons_zero, Act.put, List.setIfInBounds_toArray, List.set_cons_zero, List.set_cons_succ]
        have HM2 : Hid (y2 = headM x) := Lib.hid (by rw [← HY2.out, ← HY1.out]; rfl)
        have hb2 : bytesOk y2 := by
          rw [HM2.out]
          unfold headM
          refine bytesOk_app (bytesOk_app (fun z hz => ?_) (le_mem _ _)) (le_mem _ _)
          simp at hz
          omega
        have HB2 := Lib.hid hb2
        have HO3 := Lib.hid O3
        have HF3 := Lib.hid f3
        clear hb2 O3 f3 q3 i3 O2 O2' q2 f2 HP2 HP1 hcv hgk Hk hBk fk fk2 f0 r0 r1 r2 r3 hlow HY1 HY2 HMM hbp
        go_wp2_with fail
        go_loopg [4, 5, 45] n (fun k v4 v5 v45 wc => ∃ (i : Nat) (ys : List Int) (a : Option Addr) (d : Nat) (ahead : List ByteArray) (na : Option Addr) (nc : Nat) (dir : Bool), i + k = n ∧ v4 = .slice a ys.length d ∧ v5 = .slice na ahead.length nc ∧ v45 = .int .i64 i ∧ ahead.length ≤ nc ∧ ahead.length ≤ 64 ∧ Hid (PInv x (tl.map Prod.fst) i ys ahead dir) ∧ Hid (OwnB wc w.heap.size (.slice a ys.length d) ys) ∧ Hid (SRow wc na ahead) ∧ Hid (Fr w wc) ∧ Hid (bytesOk ys) ∧ Hid (15 ≤ ys.length ∧ ys.length ≤ 15 + ((((x, pv) :: tl).take i).map fun p => G p.1).sum))
        case atStart => exact ⟨0, y2, a3, d3, [], none, 0, true, by omega, rfl, rfl, rfl, Nat.le_refl _, by simp, Lib.hid (.inl ⟨rfl, rfl, HM2.out⟩), HO3, Lib.hid (fun i hi => by cases hi), HF3, HB2, Lib.hid (by rw [HL2.out]; simp)⟩
        case round =>
          obtain ⟨i, ys, a, d, ahead, na, nc, dir, hik, rfl, rfl, rfl, hnc, h64, HI, HO, HS, HF, HB, HL⟩ := hrel
          cases gk with
          | zero =>
            obtain rfl : i = n := by omega
            have d5 : decide ((i : Int) < (i : Int)) = false := decide_eq_false (by omega)
            obtain ⟨_, hx1, hx2, hx3, _⟩ := HI.out.resolve_left (fun e => by omega)
            have hdr : (x :: tl.map Prod.fst).drop i = [] := List.drop_eq_nil_of_le (by simp; omega)
            rw [hdr] at hx2 hx3
            have hPe : PP = (bodyP x (tl.map Prod.fst) ++ le (crcI (bodyP x (tl.map Prod.fst))) 4, 0) := by rw [← HPP.out]; exact packX_good HH.out.1 HH.out.2 hx1 (by rw [← hx2]; rfl)
            have hys : ys ++ [255] = bodyP x (tl.map Prod.fst) := by
              unfold bodyP
              rw [← hx3]
              simp
            subst hPe
            have hlen := HL.out
            rw [List.take_of_length_le (by simp; omega)] at hlen
            obtain ⟨g5, hg5⟩ : ∃ g, wr.heap.size = g := ⟨_, rfl⟩
            obtain ⟨w5, v6, w6, hw5, hap, O6, q6, i6⟩ := append_lit 22 w.heap.size a d ys [255] wr HO.out (by simp; omega) HF.out.size
            rw [hg5] at hap
            simp only [List.map_cons, List.map_nil, List.length_cons, List.length_nil, Nat.zero_add, Nat.reduceAdd] at hw5 hap
            have hbB : bytesOk (ys ++ [255]) := bytesOk_app HB.out (bytesOk_one (by decide))
            have hlB : (ys ++ [255]).length ≤ 536870928 := by rw [List.length_append]; simp; omega
            rw [hys] at O6 hbB hlB
            obtain ⟨BB, hBB⟩ : ∃ BB, bodyP x (tl.map Prod.fst) = BB := ⟨_, rfl⟩
            rw [hBB] at O6 hbB hlB
            obtain ⟨a6, d6, rfl⟩ := O6.form
            have f6 : Fr w w6 := Fr.row HF.out hw q6 (fun k e => (World.ownsRow.lt HO.out k e).1)
            have hcrr := crcI_rg hbB
            have hsum := sum_any a6 d6 BB hbB O6.at.2.2 (by omega) w6 f6.ok O6.at.1
            obtain ⟨cr, hcr⟩ : ∃ cr, crcI BB = cr := ⟨_, rfl⟩
            rw [hcr] at hsum hcrr
            have hput := put_any w.heap.size a6 d6 BB cr 4 hcrr.1 (by omega) (by decide) w6 f6.ok O6 f6.size (by omega)
            obtain ⟨ZZ, hZZ⟩ : ∃ Z, BB ++ le cr 4 = Z := ⟨_, rfl⟩
            rw [hZZ] at hput
            have HEQ : Hid (bodyP x (tl.map Prod.fst) ++ le (crcI (bodyP x (tl.map Prod.fst))) 4 = ZZ) := Lib.hid (by rw [hBB, hcr, hZZ])
            have e9 : IntKind.u64.wrap cr = cr := u64_in ⟨by omega, by omega⟩
            have HF6 := Lib.hid (And.intro f6 O6)
            have HSum := Lib.hid hsum
            have HPut := Lib.hid hput
            clear hsum hput f6 O6 hys hdr hx2 hx3 hbB hlB hlen hcrr hcr hZZ hBB q6 i6
            go_wp2_with (first
              | (at_builtin; refine wpList_append_run rfl _ _ 22 22 rfl (by simp [Act.eval]) (by simp [Act.eval]) hap ?_)
              | (go_at_call 40; refine HSum.out.mono ?_; rintro e w7 ⟨rfl, he⟩; replace he := he.symm; subst he)
              | (go_at_call 39; refine HPut.out.mono ?_; rintro e w8 ⟨a8, d8, rfl, O8, q8, i8⟩))
            refine ⟨rfl, _, results_tmp2 rfl _ _ _, _, rfl, ?_, Fr.row HF6.out.1 hw q8 (fun k e => (World.ownsRow.lt HF6.out.2 k e).1)⟩
            rw [HEQ.out]
            exact O8
          | succ k =>
            have d5 : decide ((i : Int) < (n : Int)) = true := decide_eq_true (by omega)
            have d6 : (0 : Int) ≤ (i : Int) := by omega
            have d7 : (i : Int) < (n : Int) := by omega
            obtain ⟨⟨l, lv⟩, hq⟩ : ∃ q, ((x, pv) :: tl)[i]? = some q := ⟨_, List.getElem?_eq_getElem (by omega)⟩
            have hmem := List.mem_of_getElem? hq
            obtain ⟨da, dd, hlv, hBD, hdd, hdn⟩ := hT.2 _ hmem
            dsimp only at hlv hBD hdd
            subst hlv
            have b0 := HF.out.cell (hcell i _ hq 0 _ rfl)
            have b1 := HF.out.cell (hcell i _ hq 1 _ rfl)
            have b2 := HF.out.cell (hcell i _ hq 2 _ rfl)
            have b3 := HF.out.cell (hcell i _ hq 3 _ rfl)
            have b4 := HF.out.cell (hcell i _ hq 4 _ rfl)
            have b5 := HF.out.cell (hcell i _ hq 5 _ rfl)
            simp only [Nat.add_zero] at b0
            obtain ⟨w1, g1, hg1, hw1, f1, hz1, H1⟩ := boxedN HF.out.ok #[.string l.path, .int .i64 l.ty, .int .i64 l.mode, .int .u64 l.stamp, .slice da l.data.length dd, .string l.tgt] 45
            obtain ⟨l0, l1, l2, l3, l4, l5⟩ := blk6 H1
            have hps := hs _ hmem
            dsimp only at hps
            have HN : Hid (∀ W, Fr w1 W → Calls Tryd.prog 46 #[.string l.path] W fun e w' => ∃ A c, e = .returned (.tuple #[.slice A (namesR l.path.data.toList).1.length c, .bool (namesR l.path.data.toList).2]) ∧ SRow w' A (namesR l.path.data.toList).1 ∧ (namesR l.path.data.toList).1.length ≤ c ∧ Fr W w') := Lib.hid (fun W q => by
              have h := namesOf_any l.path.data.toList (by have : l.path.data.toList.length = l.path.size := rfl; omega) W q.ok
              rwa [show (⟨l.path.data.toList.toArray⟩ : ByteArray) = l.path from by simp] at h)
            have HG : Hid (∀ W, Fr w1 W → Calls Tryd.prog 47 #[.agg #[.string l.path, .int .i64 l.ty, .int .i64 l.mode, .int .u64 l.stamp, .slice da l.data.length dd, .string l.tgt]] W fun e w' => e = .returned (.bool (okL l)) ∧ Fr W w') := Lib.hid (fun W q => good_any l.path l.ty l.mode l.stamp da l.data.length dd l.tgt W q.ok)
            obtain ⟨ok, hok⟩ : ∃ b, okL l = b := ⟨_, rfl⟩
            rw [hok] at HG
            obtain ⟨⟨ns, nb⟩, hns⟩ : ∃ q, namesR l.path.data.toList = q := ⟨_, rfl⟩
            rw [hns] at HN
            dsimp only at HN
            have HNS := Lib.hid hns
            have HOK := Lib.hid hok
            have HQ := Lib.hid hq
            clear hns hok hq hcells
            have HCell := Lib.hid hcell
            clear hcell
            have hql : (x :: tl.map Prod.fst)[i]? = some l := by
              have := congrArg (Option.map Prod.fst) HQ.out
              rw [← List.getElem?_map] at this
              simpa using this
            have HQL := Lib.hid hql
            clear hql
            cases nb with
            | false =>
              have hPe : PP = ([], 191) := by rw [← HPP.out]; exact pinv_bad HI.out HQL.out HH.out.1 HH.out.2 (.inl (names_R HNS.out).1)
              subst hPe
              go_wp2_with (first
                | (go_at_call 46; refine (HN.out _ (Fr.refl f1.ok)).mono ?_; rintro e w2 ⟨A2, c2, rfl, S2, hc2, q⟩))
              go_ret2
              exact ⟨_, rfl, OwnB.nil _ _, (HF.out.trans f1).trans q⟩
            | true =>
              cases ok with
              | false =>
                have hPe : PP = ([], 191) := by rw [← HPP.out]; exact pinv_bad HI.out HQL.out HH.out.1 HH.out.2 (.inr (.inl HOK.out))
                subst hPe
                go_wp2_with (first
                  | (go_at_call 46; refine (HN.out _ (Fr.refl f1.ok)).mono ?_; rintro e w2 ⟨A2, c2, rfl, S2, hc2, q⟩; replace l0 := q.cell l0; replace l1 := q.cell l1; replace l2 := q.cell l2; replace l3 := q.cell l3; replace l4 := q.cell l4; replace l5 := q.cell l5)
                  | (go_at_call 47; refine (HG.out _ q).mono ?_; rintro e w3 ⟨rfl, q3⟩))
                go_ret2
                exact ⟨_, rfl, OwnB.nil _ _, ((HF.out.trans f1).trans q).trans q3⟩
              | true =>
                have hnk := names_R HNS.out
                rcases Nat.eq_zero_or_pos i with hi0 | hi0
                · subst hi0
                  simp only [Nat.zero_mul, Nat.add_zero] at b0 b1 b2 b3 b4 b5
                  have hlx : x = l := by simpa using HQL.out
                  have hnx := pinv_first HI.out HH.out.2 (by rw [hlx]; exact HOK.out)
                  obtain rfl := hnx.2
                  have hnx := hnx.1
                  have HNX := Lib.hid hnx
                  clear hnx hlx
                  go_wp2_with (first
                    | (go_at_call 46; refine (HN.out _ (Fr.refl f1.ok)).mono ?_; rintro e w2 ⟨A2, c2, rfl, S2, hc2, q⟩; replace l0 := q.cell l0; replace l1 := q.cell l1; replace l2 := q.cell l2; replace l3 := q.cell l3; replace l4 := q.cell l4; replace l5 := q.cell l5)
                    | (go_at_call 47; refine (HG.out _ q).mono ?_; rintro e w3 ⟨rfl, q3⟩))
                  have fall := ((HF.out.trans f1).trans q).trans q3
                  have fr3 := (f1.trans q).trans q3
                  go_roundg k
                  case measure => omega
                  case rel =>
                    refine ⟨1, ys, a, d, [], na, nc, true, by omega, rfl, rfl, by go_num, by simp, by simp, HNX, Lib.hid (OwnB.fr HO.out fr3), Lib.hid (fun i hi => by cases hi), Lib.hid fall, HB, Lib.hid ?_⟩
                    have := HL.out
                    simp at this
                    refine ⟨this.1, ?_⟩
                    simp
                    omega
                · have d8 : ¬ ((i : Int) = 0) := by omega
                  obtain ⟨j, hj⟩ : ∃ j, j + 1 = i := ⟨i - 1, by omega⟩
                  have e8 : IntKind.i64.wrap ((i : Int) - 1) = (j : Int) := by rw [IntWalk.i64_in _ ⟨by omega, by omega⟩]; omega
                  have d9 : (0 : Int) ≤ (j : Int) := by omega
                  have d10 : (j : Int) < (n : Int) := by omega
                  obtain ⟨m, hm⟩ : ∃ m, ns.length = m := ⟨_, rfl⟩
                  rw [hm] at HN
                  have hm64 : m ≤ 64 := by
                    rw [← hm, ← hnk.2]
                    cases hq : namesP l.path.data.toList with
                    | none => simp
                    | some q => exact (namesP_good hq).2.2.1
                  have HFo : Hid (∀ W A2 c2, Fr w1 W → SRow W A2 ns → m ≤ c2 → Calls Tryd.prog 48 #[.slice na ahead.length nc, .slice A2 m c2] W fun e w' => e = .returned (.tuple #[.int .i64 ((sharedX ahead ns : Nat) : Int), .bool (behindX ltB ahead ns)]) ∧ Fr W w') := Lib.hid (fun W A2 c2 q s h => by
                    have := follows_any na A2 nc c2 ahead ns (by omega) (by omega) W q.ok (HS.out.fr (f1.trans q)) hnc s (by rw [hm]; exact h)
                    rwa [hm] at this)
                  obtain ⟨sh, hsh⟩ : ∃ s, sharedX ahead ns = s := ⟨_, rfl⟩
                  obtain ⟨bh, hbh⟩ : ∃ s, behindX ltB ahead ns = s := ⟨_, rfl⟩
                  rw [hsh, hbh] at HFo
                  have e9 : IntKind.i64.wrap ((m : Int) - 1) = (m : Int) - 1 := IntWalk.i64_in _ ⟨by omega, by omega⟩
                  have hshl := shared_le ahead ns
                  have HM := Lib.hid hm
                  have HJ := Lib.hid hj
                  have HSB := Lib.hid (And.intro hsh hbh)
                  obtain ⟨⟨lj, vj⟩, hqj⟩ : ∃ q, ((x, pv) :: tl)[j]? = some q := ⟨_, List.getElem?_eq_getElem (by omega)⟩
                  have cj := (HF.out.trans f1).cell (HCell.out j _ hqj 1 _ rfl)
                  have hdir : dir = decide (lj.ty = 2) := by
                    rcases HI.out with ⟨h0, _⟩ | ⟨_, _, _, _, h6⟩
                    · omega
                    · rw [h6, show i - 1 = j by omega]
                      have h7 := congrArg (Option.map Prod.fst) hqj
                      rw [← List.getElem?_map] at h7
                      have h8 : (x :: tl.map Prod.fst)[j]? = some lj := by simpa using h7
                      rw [List.getD, h8]
                      rfl
                  have hstep : stepX ltB ahead dir (nmL l) = (bh && decide (m - 1 ≤ sh) && (decide (m - 1 ≠ ahead.length) || decide (lj.ty = 2))) := by
                    have e : nmL l = ns := hnk.2
                    unfold stepX
                    rw [e, hbh, hsh, hm, hdir]
                  have HStep := Lib.hid hstep
                  clear hm hj hsh hbh hqj hdir hstep
                  have hno : ∀ (h : stepX ltB ahead dir (nmL l) = false), PP = ([], 191) := fun h => by rw [← HPP.out]; exact pinv_bad HI.out HQL.out HH.out.1 HH.out.2 (.inr (.inr ⟨hi0, h⟩))
                  have HNo := Lib.hid hno
                  clear hno
                  cases bh with
                  | false =>
                    obtain rfl := HNo.out (by rw [HStep.out]; rfl)
                    go_wp2_with (first
                      | (go_at_call 46; refine (HN.out _ (Fr.refl f1.ok)).mono ?_; rintro e w2 ⟨A2, c2, rfl, S2, hc2, q⟩; replace l0 := q.cell l0; replace l1 := q.cell l1; replace l2 := q.cell l2; replace l3 := q.cell l3; replace l4 := q.cell l4; replace l5 := q.cell l5)
                      | (go_at_call 47; refine (HG.out _ q).mono ?_; rintro e w3 ⟨rfl, q3⟩)
                      | (go_at_call 48; refine (HFo.out _ A2 c2 (q.trans q3) (S2.fr q3) hc2).mono ?_; rintro e w4 ⟨rfl, q4⟩))
                    go_ret2
                    exact ⟨_, rfl, OwnB.nil _ _, (((HF.out.trans f1).trans q).trans q3).trans q4⟩
                  | true =>
                    have hne : ns ≠ [] := behind_ne ltB HSB.out.2
                    obtain ⟨u, hu⟩ : ∃ u, u + 1 = m := ⟨m - 1, by have := HM.out; have := List.length_pos_iff.mpr hne; omega⟩
                    replace e9 : IntKind.i64.wrap ((m : Int) - 1) = (u : Int) := by rw [e9]; omega
                    have hu1 : m - 1 = u := by omega
                    rw [hu1] at HStep
                    have HU := Lib.hid hu
                    clear hu hu1
                    by_cases k1 : sh < u
                    · obtain rfl := HNo.out (by rw [HStep.out, decide_eq_false (by omega : ¬ u ≤ sh)]; rfl)
                      have k1' : (sh : Int) < (u : Int) := by omega
                      go_wp2_with (first
                        | (go_at_call 46; refine (HN.out _ (Fr.refl f1.ok)).mono ?_; rintro e w2 ⟨A2, c2, rfl, S2, hc2, q⟩; replace l0 := q.cell l0; replace l1 := q.cell l1; replace l2 := q.cell l2; replace l3 := q.cell l3; replace l4 := q.cell l4; replace l5 := q.cell l5)
                        | (go_at_call 47; refine (HG.out _ q).mono ?_; rintro e w3 ⟨rfl, q3⟩)
                        | (go_at_call 48; refine (HFo.out _ A2 c2 (q.trans q3) (S2.fr q3) hc2).mono ?_; rintro e w4 ⟨rfl, q4⟩))
                      go_ret2
                      exact ⟨_, rfl, OwnB.nil _ _, (((HF.out.trans f1).trans q).trans q3).trans q4⟩
                    · have k1' : (u : Int) ≤ (sh : Int) := by omega
                      have hpiece : Hid (∀ W A2 c2, Fr w1 W → SRow W A2 ns → m ≤ c2 → okL l = true → Calls Tryd.prog 49 #[.slice a ys.length d, .agg #[.string l.path, .int .i64 l.ty, .int .i64 l.mode, .int .u64 l.stamp, .slice da l.data.length dd, .string l.tgt], .slice A2 m c2] W fun e w' => ∃ a' d', e = .returned (.slice a' (ys ++ pieceB l ns).length d') ∧ OwnB w' w.heap.size (.slice a' (ys ++ pieceB l ns).length d') (ys ++ pieceB l ns) ∧ W.grownBy w' (Value.slice a ys.length d).ownBlock ∧ Ownish W (Value.slice a ys.length d).ownBlock (Value.slice a' (ys ++ pieceB l ns).length d').ownBlock) := Lib.hid (fun W A2 c2 q s h hk => by
                        have f := HF.out.trans (f1.trans q)
                        have := piece_any w.heap.size a d ys l da dd ns A2 c2 W q.ok (OwnB.fr HO.out (f1.trans q)) f.size hB0 (hBD.fr f) hdd (fun a' e => by
                          unfold datA at e
                          split at e
                          · cases e
                          · rename_i h0
                            rcases hBD with hBD | ⟨gd, od, e2, hgd, _⟩
                            · exact absurd hBD h0
                            · rw [e2] at e; injection e with e; subst e; exact hgd) hdn s.off hne (by rw [HM.out]; exact hm64) (by rw [HM.out]; exact h) hk (hst _ hmem) (by
                          have e : (namesP l.path.data.toList) = some ns := by
                            have h1 := hnk.1; have h2 := hnk.2
                            cases hq : namesP l.path.data.toList with
                            | none => rw [hq] at h1; cases h1
                            | some q => rw [hq] at h2; rw [← h2]; rfl
                          have hg := (namesP_good e).2.1
                          have hl : ns.getLastD ⟨#[]⟩ ∈ ns := by
                            rw [List.getLastD_eq_getLast?, List.getLast?_eq_some_getLast hne]
                            exact List.getLast_mem hne
                          exact (nameB_all (hg _ hl)).2.2.2.1) (by
                          have h1 := HL.out.2
                          have h2 : ((((x, pv) :: tl).take i).map fun p => G p.1).sum ≤ (((x, pv) :: tl).map fun p => G p.1).sum := by
                            conv => rhs; rw [← List.take_append_drop i ((x, pv) :: tl)]
                            rw [List.map_append, List.sum_append]
                            omega
                          omega)
                        rwa [HM.out] at this)
                      obtain ⟨zs, hzs⟩ : ∃ z, ys ++ pieceB l ns = z := ⟨_, rfl⟩
                      rw [hzs] at hpiece
                      have HZs := Lib.hid hzs
                      clear hzs
                      by_cases k2 : u = ahead.length
                      · subst k2
                        by_cases k3 : lj.ty = 2
                        · have k3' : (lj.ty != 2) = false := by simp [k3]
                          have HK := Lib.hid (And.intro k1 k3)
                          clear k3 k1
                          go_wp2_with (first
                            | (go_at_call 46; refine (HN.out _ (Fr.refl f1.ok)).mono ?_; rintro e w2 ⟨A2, c2, rfl, S2, hc2, q⟩; replace l0 := q.cell l0; replace l1 := q.cell l1; replace l2 := q.cell l2; replace l3 := q.cell l3; replace l4 := q.cell l4; replace l5 := q.cell l5; replace cj := q.cell cj)
                            | (go_at_call 47; refine (HG.out _ q).mono ?_; rintro e w3 ⟨rfl, q3⟩; replace l0 := q3.cell l0; replace l1 := q3.cell l1; replace l2 := q3.cell l2; replace l3 := q3.cell l3; replace l4 := q3.cell l4; replace l5 := q3.cell l5; replace cj := q3.cell cj)
                            | (go_at_call 48; refine (HFo.out _ A2 c2 (q.trans q3) (S2.fr q3) hc2).mono ?_; rintro e w4 ⟨rfl, q4⟩; replace l0 := q4.cell l0; replace l1 := q4.cell l1; replace l2 := q4.cell l2; replace l3 := q4.cell l3; replace l4 := q4.cell l4; replace l5 := q4.cell l5; replace cj := q4.cell cj)
                            | (go_at_call 49; refine (hpiece.out _ A2 c2 ((q.trans q3).trans q4) ((S2.fr q3).fr q4) hc2 HOK.out).mono ?_; rintro e w5 ⟨a5, d5, rfl, O5, q5, i5⟩))
                          have fall := HF.out.trans (f1.trans ((q.trans q3).trans q4))
                          have fr4 := f1.trans ((q.trans q3).trans q4)
                          have O4 := OwnB.fr HO.out fr4
                          have hyp := HL.out.1
                          have S5 : SRow w5 A2 ns := SRow.grown ((S2.fr q3).fr q4) O4 (by omega) q5
                          have f5 : Fr w w5 := Fr.row fall hw q5 (fun k e => (World.ownsRow.lt O4 k e).1)
                          have hnm : nmL l = ns := hnk.2
                          have hsome : (namesP l.path.data.toList) = some ns := by
                            have h1 := hnk.1; have h2 := hnk.2
                            cases hq : namesP l.path.data.toList with
                            | none => rw [hq] at h1; cases h1
                            | some q => rw [hq] at h2; rw [← h2]; rfl
                          have hlast : (ns.getLastD ⟨#[]⟩).size ≤ 63 := by
                            have hg := (namesP_good hsome).2.1
                            have hl : ns.getLastD ⟨#[]⟩ ∈ ns := by
                              rw [List.getLastD_eq_getLast?, List.getLast?_eq_some_getLast hne]
                              exact List.getLast_mem hne
                            exact (nameB_all (hg _ hl)).2.2.2.1
                          have hpk := piece_ok HOK.out (hbd _ hmem) (by rw [HM.out]; exact hm64) hlast
                          have hnext : PInv x (tl.map Prod.fst) (i + 1) zs ns (decide (l.ty = 2)) := by
                            have h9 := HI.out
                            have hql := HQL.out
                            rw [← HJ.out] at h9 hql ⊢
                            have := pinv_next h9 hql hnk.1 HOK.out (by rw [HStep.out]; rw [decide_eq_true (by have := HK.out.1; omega), decide_eq_true HK.out.2]; simp)
                            rw [hnm, HZs.out] at this
                            exact this
                          have hlen2 : 15 ≤ zs.length ∧ zs.length ≤ 15 + ((((x, pv) :: tl).take (i + 1)).map fun p => G p.1).sum := by
                            have h1 := HL.out
                            have h2 : ((x, pv) :: tl).take (i + 1) = ((x, pv) :: tl).take i ++ [(l, .slice da l.data.length dd)] := by
                              have h3 := HQ.out
                              rw [List.take_add_one, h3]
                              rfl
                            rw [h2, List.map_append, List.sum_append, ← HZs.out, List.length_append]
                            have h4 : (pieceB l ns).length ≤ G l := by have h5 := hG _ hmem HOK.out hnk.1 (by rw [hnm]; exact hne); rw [hnm] at h5; exact h5
                            simp only [List.map_cons, List.map_nil, List.sum_cons, List.sum_nil]
                            omega
                          have HB5 : bytesOk zs := by rw [← HZs.out]; exact bytesOk_app HB.out hpk.1
                          have HR5 := Lib.hid (And.intro hnext (And.intro O5 (And.intro S5 (And.intro f5 (And.intro HB5 hlen2)))))
                          clear hnext O5 S5 f5 HB5 hlen2 hpk hlast hsome hnm O4 fr4 fall q5 i5
                          go_roundg k
                          case measure => omega
                          case rel =>
                            obtain ⟨z1, z2, z3, z4, z5, z6⟩ := HR5.out
                            exact ⟨i + 1, zs, a5, d5, ns, A2, c2, decide (l.ty = 2), by omega, rfl, by rw [HM.out], by go_num, by rw [HM.out]; exact hc2, by rw [HM.out]; exact hm64, Lib.hid z1, Lib.hid z2, Lib.hid z3, Lib.hid z4, Lib.hid z5, Lib.hid z6⟩
                        · have k3' : (lj.ty != 2) = true := by simp [k3]
                          obtain rfl := HNo.out (by rw [HStep.out, decide_eq_false k3]; simp)
                          clear k3
                          go_wp2_with (first
                            | (go_at_call 46; refine (HN.out _ (Fr.refl f1.ok)).mono ?_; rintro e w2 ⟨A2, c2, rfl, S2, hc2, q⟩; replace l0 := q.cell l0; replace l1 := q.cell l1; replace l2 := q.cell l2; replace l3 := q.cell l3; replace l4 := q.cell l4; replace l5 := q.cell l5; replace cj := q.cell cj)
                            | (go_at_call 47; refine (HG.out _ q).mono ?_; rintro e w3 ⟨rfl, q3⟩; replace l0 := q3.cell l0; replace l1 := q3.cell l1; replace l2 := q3.cell l2; replace l3 := q3.cell l3; replace l4 := q3.cell l4; replace l5 := q3.cell l5; replace cj := q3.cell cj)
                            | (go_at_call 48; refine (HFo.out _ A2 c2 (q.trans q3) (S2.fr q3) hc2).mono ?_; rintro e w4 ⟨rfl, q4⟩; replace l0 := q4.cell l0; replace l1 := q4.cell l1; replace l2 := q4.cell l2; replace l3 := q4.cell l3; replace l4 := q4.cell l4; replace l5 := q4.cell l5; replace cj := q4.cell cj))
                          go_ret2
                          exact ⟨_, rfl, OwnB.nil _ _, (((HF.out.trans f1).trans q).trans q3).trans q4⟩
                      · have k2' : ¬ ((u : Int) = (ahead.length : Int)) := by omega
                        have HK := Lib.hid (And.intro k1 k2)
                        clear k1 k2
                        go_wp2_with (first
                          | (go_at_call 46; refine (HN.out _ (Fr.refl f1.ok)).mono ?_; rintro e w2 ⟨A2, c2, rfl, S2, hc2, q⟩; replace l0 := q.cell l0; replace l1 := q.cell l1; replace l2 := q.cell l2; replace l3 := q.cell l3; replace l4 := q.cell l4; replace l5 := q.cell l5; replace cj := q.cell cj)
                          | (go_at_call 47; refine (HG.out _ q).mono ?_; rintro e w3 ⟨rfl, q3⟩; replace l0 := q3.cell l0; replace l1 := q3.cell l1; replace l2 := q3.cell l2; replace l3 := q3.cell l3; replace l4 := q3.cell l4; replace l5 := q3.cell l5; replace cj := q3.cell cj)
                          | (go_at_call 48; refine (HFo.out _ A2 c2 (q.trans q3) (S2.fr q3) hc2).mono ?_; rintro e w4 ⟨rfl, q4⟩; replace l0 := q4.cell l0; replace l1 := q4.cell l1; replace l2 := q4.cell l2; replace l3 := q4.cell l3; replace l4 := q4.cell l4; replace l5 := q4.cell l5; replace cj := q4.cell cj)
                          | (go_at_call 49; refine (hpiece.out _ A2 c2 ((q.trans q3).trans q4) ((S2.fr q3).fr q4) hc2 HOK.out).mono ?_; rintro e w5 ⟨a5, d5, rfl, O5, q5, i5⟩))
                        have fall := HF.out.trans (f1.trans ((q.trans q3).trans q4))
                        have fr4 := f1.trans ((q.trans q3).trans q4)
                        have O4 := OwnB.fr HO.out fr4
                        have hyp := HL.out.1
                        have S5 : SRow w5 A2 ns := SRow.grown ((S2.fr q3).fr q4) O4 (by omega) q5
                        have f5 : Fr w w5 := Fr.row fall hw q5 (fun k e => (World.ownsRow.lt O4 k e).1)
                        have hnm : nmL l = ns := hnk.2
                        have hsome : (namesP l.path.data.toList) = some ns := by
                          have h1 := hnk.1; have h2 := hnk.2
                          cases hq : namesP l.path.data.toList with
                          | none => rw [hq] at h1; cases h1
                          | some q => rw [hq] at h2; rw [← h2]; rfl
                        have hlast : (ns.getLastD ⟨#[]⟩).size ≤ 63 := by
                          have hg := (namesP_good hsome).2.1
                          have hl : ns.getLastD ⟨#[]⟩ ∈ ns := by
                            rw [List.getLastD_eq_getLast?, List.getLast?_eq_some_getLast hne]
                            exact List.getLast_mem hne
                          exact (nameB_all (hg _ hl)).2.2.2.1
                        have hpk := piece_ok HOK.out (hbd _ hmem) (by rw [HM.out]; exact hm64) hlast
                        have hnext : PInv x (tl.map Prod.fst) (i + 1) zs ns (decide (l.ty = 2)) := by
                          have h9 := HI.out
                          have hql := HQL.out
                          rw [← HJ.out] at h9 hql ⊢
                          have := pinv_next h9 hql hnk.1 HOK.out (by rw [HStep.out]; rw [decide_eq_true (by have := HK.out.1; omega), decide_eq_true HK.out.2]; rfl)
                          rw [hnm, HZs.out] at this
                          exact this
                        have hlen2 : 15 ≤ zs.length ∧ zs.length ≤ 15 + ((((x, pv) :: tl).take (i + 1)).map fun p => G p.1).sum := by
                          have h1 := HL.out
                          have h2 : ((x, pv) :: tl).take (i + 1) = ((x, pv) :: tl).take i ++ [(l, .slice da l.data.length dd)] := by
                            have h3 := HQ.out
                            rw [List.take_add_one, h3]
                            rfl
                          rw [h2, List.map_append, List.sum_append, ← HZs.out, List.length_append]
                          have h4 : (pieceB l ns).length ≤ G l := by have h5 := hG _ hmem HOK.out hnk.1 (by rw [hnm]; exact hne); rw [hnm] at h5; exact h5
                          simp only [List.map_cons, List.map_nil, List.sum_cons, List.sum_nil]
                          omega
                        have HB5 : bytesOk zs := by rw [← HZs.out]; exact bytesOk_app HB.out hpk.1
                        have HR5 := Lib.hid (And.intro hnext (And.intro O5 (And.intro S5 (And.intro f5 (And.intro HB5 hlen2)))))
                        clear hnext O5 S5 f5 HB5 hlen2 hpk hlast hsome hnm O4 fr4 fall q5 i5
                        go_roundg k
                        case measure => omega
                        case rel =>
                          obtain ⟨z1, z2, z3, z4, z5, z6⟩ := HR5.out
                          exact ⟨i + 1, zs, a5, d5, ns, A2, c2, decide (l.ty = 2), by omega, rfl, by rw [HM.out], by go_num, by rw [HM.out]; exact hc2, by rw [HM.out]; exact hm64, Lib.hid z1, Lib.hid z2, Lib.hid z3, Lib.hid z4, Lib.hid z5, Lib.hid z6⟩
      · have hPe : PP = ([], 190) := by rw [← HPP.out]; exact packX_head (fun e => ht2 e.2)
        subst hPe
        have d2 : (x.ty != 2) = true := by simp [ht2]
        clear hp47
        go_enter Tryd.func21, Tryd.ntmps21
        go_wp2_with fail
        exact ⟨rfl, _, results_tmp2 rfl _ _ _, _, rfl, OwnB.nil _ _, Fr.refl hw⟩
theorem pack_any (A : Option Addr) (c : Nat) (tv : List (Lf × Value)) (w : World) (hw : Ok w) (hT : LAt w A tv) (hc : tv.length ≤ c) (hn : tv.length ≤ 16777216) (hs : ∀ p ∈ tv, p.1.path.size ≤ 1048575) (hst : ∀ p ∈ tv, 0 ≤ p.1.stamp ∧ p.1.stamp ≤ 18446744073709551615)
    (hW : (tv.map fun p => 256 + 6 * p.1.data.length).sum ≤ 536870912) (hbd : ∀ p ∈ tv, bytesOk p.1.data) (hB0 : 0 < w.heap.size) :
    Calls Tryd.prog 21 #[.slice A tv.length c] w fun e w' => ∃ v, e = .returned (.tuple #[v, .int .i64 (packX (tv.map Prod.fst)).2]) ∧ OwnB w' w.heap.size v (packX (tv.map Prod.fst)).1 ∧ Fr w w' :=
  pack_anyG (fun l => 256 + 6 * l.data.length) A c tv w hw hT hc (by omega) hs hst (fun p hp h1 h2 h3 => by
    have h4 : namesP p.1.path.data.toList = some (nmL p.1) := by
      unfold nmL
      cases hq : namesP p.1.path.data.toList with
      | none => rw [hq] at h2; cases h2
      | some q => rfl
    have hg := namesP_good h4
    have hl : (nmL p.1).getLastD ⟨#[]⟩ ∈ nmL p.1 := by
      rw [List.getLastD_eq_getLast?, List.getLast?_eq_some_getLast h3]
      exact List.getLast_mem h3
    exact (piece_ok h1 (hbd p hp) hg.2.2.1 (nameB_all (hg.2.1 _ hl)).2.2.2.1).2) hW hbd hB0
end Go.Proofs.YtlnaeppbhjmocaaDoor
set_option linter.unusedSimpArgs false
set_option linter.unusedVariables false
namespace Go.Proofs.YtlnaeppbhjmocaaDoor
open Go.RowKit Go.Proofs

/-! ### Numbers and parts of a row -/
theorem leV_le (n : Nat) : ∀ v : Int, 0 ≤ v → v < 256 ^ n → leV (le v n) = v := by
  induction n with
  | zero => intro v h0 h1; simp at h1; simp [le, leV]; omega
  | succ n ih =>
    intro v h0 h1
    have h2 : v / 256 < 256 ^ n := by
      rw [Int.pow_succ] at h1
      exact Int.ediv_lt_of_lt_mul (by decide) h1
    rw [le, leV, ih (v / 256) (Int.ediv_nonneg h0 (by decide)) h2]
    omega
theorem take_at {L bs rest : List Int} {i : Nat} (h : L.drop i = bs ++ rest) (hi : i ≤ L.length) : takeX L bs.length (.ok i) = (bs, .ok (i + bs.length)) ∧ L.drop (i + bs.length) = rest ∧ i + bs.length ≤ L.length := by
  have hl := congrArg List.length h
  rw [List.length_drop, List.length_append] at hl
  refine ⟨?_, ?_, by omega⟩
  · simp only [takeX]
    rw [if_pos (by omega), h, List.take_left]
  · rw [← List.drop_drop, h, List.drop_left]
theorem num_at {L rest : List Int} {i n : Nat} {v low high : Int} (h : L.drop i = le v n ++ rest) (hi : i ≤ L.length) (h0 : 0 ≤ v) (h1 : v < 256 ^ n) (hlo : low ≤ v) (hhi : v ≤ high) : numX L n low high (.ok i) = (v, .ok (i + n)) ∧ L.drop (i + n) = rest ∧ i + n ≤ L.length := by
  obtain ⟨h2, h3, h4⟩ := take_at h hi
  rw [le_length] at h2 h3 h4
  refine ⟨?_, h3, h4⟩
  unfold numX
  rw [h2]
  dsimp only
  rw [leV_le n v h0 h1, if_pos ⟨hlo, hhi⟩]
theorem one_at {L rest : List Int} {i : Nat} {v low high : Int} (h : L.drop i = v :: rest) (hi : i ≤ L.length) (h0 : 0 ≤ v) (h1 : v < 256) (hlo : low ≤ v) (hhi : v ≤ high) : numX L 1 low high (.ok i) = (v, .ok (i + 1)) ∧ L.drop (i + 1) = rest ∧ i + 1 ≤ L.length := by
  refine num_at (n := 1) (by rw [h]; simp only [le, List.cons_append, List.nil_append]; rw [Int.emod_eq_of_lt h0 h1]) hi h0 (by simpa using h1) hlo hhi
theorem str_bytes (s : ByteArray) : strOfNums (bytesI s) = s := by
  apply ByteArray.ext
  unfold strOfNums bytesI
  apply Array.toList_inj.mp
  simp only [List.map_map]
  have : (fun x : Int => UInt8.ofNat x.toNat) ∘ (fun c : UInt8 => (c.toNat : Int)) = id := by
    funext c
    simp
  rw [this, List.map_id]

/-! ### A file's data, cut and read again -/
theorem no16_short (Z : Nat) (r : List Int) (hZ : Z < 16) (hr : no16 r = true) (h0 : r = [] ∨ r.headD 0 ≠ 0) : no16 (List.replicate Z 0 ++ r) = true := by
  have hl : lead0 r = 0 := by
    rcases h0 with e | e
    · rw [e]; rfl
    · cases r with
      | nil => rfl
      | cons x r => rw [lead0, if_neg (by simpa using e)]
  have hlz : ∀ z, lead0 (List.replicate z 0 ++ r) = z := by
    intro z
    induction z with
    | zero => simpa using hl
    | succ z ih => rw [List.replicate_succ, List.cons_append, lead0, if_pos rfl, ih]
  induction Z with
  | zero => simpa using hr
  | succ z ih =>
    rw [List.replicate_succ, List.cons_append, no16, ih (by omega)]
    have := hlz (z + 1)
    rw [List.replicate_succ, List.cons_append] at this
    rw [this]
    simpa using hZ
theorem lead0_zeros (l : List Int) : l.take (lead0 l) = List.replicate (lead0 l) 0 := by
  induction l with
  | nil => simp [lead0]
  | cons x r ih =>
    rw [lead0]
    by_cases h : x = 0
    · rw [if_pos h, List.take_succ_cons, ih, h, List.replicate_succ]
    · rw [if_neg h]; simp
/-- up to the next hole nothing is one; a byte that is none stands ahead of it -/
theorem nhL_full (L : List Int) : ∀ (d k : Nat), k + d = L.length → no16 ((L.drop k).take ((nhL (L.drop k) 0 k).1 - k)) = true ∧ ((nhL (L.drop k) 0 k).1 < L.length → (nhL (L.drop k) 0 k).1 = k ∨ (k < (nhL (L.drop k) 0 k).1 ∧ L.getD ((nhL (L.drop k) 0 k).1 - 1) 0 ≠ 0)) := by
  intro d
  induction d using Nat.strongRecOn with
  | _ d ih =>
  intro k hd
  have hzl := lead0_le (L.drop k)
  rw [List.length_drop] at hzl
  by_cases h16 : 16 ≤ lead0 (L.drop k)
  · rw [nhL_hole _ _ h16]
    refine ⟨by simp [no16], fun _ => .inl rfl⟩
  · rcases lead0_drop (L.drop k) with e | ⟨x, r, e, hx⟩
    · rw [nhL_end _ _ (by omega) e]
      have hlen := congrArg List.length e
      simp at hlen
      refine ⟨?_, fun h => by (have h : k + lead0 (L.drop k) < L.length := h); omega⟩
      show no16 ((L.drop k).take (k + lead0 (L.drop k) - k)) = true
      rw [Nat.add_sub_cancel_left, lead0_zeros]
      have := no16_short (lead0 (L.drop k)) [] (by omega) rfl (.inl rfl)
      simpa using this
    · rw [nhL_next _ _ (by omega) e hx]
      have he2 := e
      rw [List.drop_drop] at he2
      have hlen : k + lead0 (L.drop k) < L.length := by
        have := congrArg List.length he2
        simp at this; omega
      have hr : r = L.drop (k + lead0 (L.drop k) + 1) := by
        rw [List.drop_eq_getElem_cons hlen] at he2
        injection he2 with e1 e2
        exact e2.symm
      have hxe : x = L.getD (k + lead0 (L.drop k)) 0 := by
        rw [List.drop_eq_getElem_cons hlen] at he2
        injection he2 with e1 e2
        simp [List.getD, hlen, e1]
      rw [hr]
      obtain ⟨Z, hZ⟩ : ∃ Z, lead0 (L.drop k) = Z := ⟨_, rfl⟩
      have hlz := lead0_zeros (L.drop k)
      rw [hZ] at hlen hxe e he2 hzl h16 hlz ⊢
      obtain ⟨i1, i2⟩ := ih (d - (Z + 1)) (by omega) (k + Z + 1) (by omega)
      have hb := nhL_bounds (L.drop (k + Z + 1)) 0 (k + Z + 1) (by omega)
      obtain ⟨q, hq⟩ : ∃ q, (nhL (L.drop (k + Z + 1)) 0 (k + Z + 1)).1 = q := ⟨_, rfl⟩
      rw [hq] at i1 i2 hb ⊢
      constructor
      · have hsp : (L.drop k).take (q - k) = List.replicate Z 0 ++ (x :: (L.drop (k + Z + 1)).take (q - (k + Z + 1))) := by
          have h1 : L.drop k = List.replicate Z 0 ++ (x :: L.drop (k + Z + 1)) := by
            rw [← hlz]
            have h2 : x :: L.drop (k + Z + 1) = (L.drop k).drop Z := by rw [e, hr, hZ]
            rw [h2, List.take_append_drop]
          rw [h1, List.take_append, List.length_replicate, List.take_of_length_le (by rw [List.length_replicate]; omega)]
          congr 1
          rw [show q - k - Z = (q - (k + Z + 1)) + 1 by omega, List.take_succ_cons]
        rw [hsp]
        refine no16_short Z _ (by omega) ?_ (.inr (by simpa using hx))
        rw [no16, lead0, if_neg hx, i1]
        rfl
      · intro hlt
        right
        refine ⟨by omega, ?_⟩
        rcases i2 hlt with e3 | ⟨e3, e4⟩
        · rw [e3, Nat.add_sub_cancel]
          rw [← hxe]
          exact hx
        · exact e4
theorem getD_head (L : List Int) (p n : Nat) (h : p < L.length) (hn : 0 < n) : ((L.drop p).take n).headD 1 = L.getD p 0 := by
  obtain ⟨n, rfl⟩ : ∃ m, n = m + 1 := ⟨n - 1, by omega⟩
  rw [List.drop_eq_getElem_cons h, List.take_succ_cons]
  simp [List.getD, h]
theorem getD_last (L : List Int) (p n : Nat) (h : p + n ≤ L.length) (hn : 0 < n) : ((L.drop p).take n).getLastD 1 = L.getD (p + n - 1) 0 := by
  have hl : ((L.drop p).take n).length = n := by rw [List.length_take, List.length_drop]; omega
  rw [List.getLastD_eq_getLast?, List.getLast?_eq_getElem?, hl, List.getElem?_take_of_lt (by omega), List.getElem?_drop, List.getD, show p + (n - 1) = p + n - 1 by omega, List.getElem?_eq_getElem (by omega)]
  rfl
theorem nh_zero (L : List Int) (p : Nat) (h : 0 < lead0 (L.drop p)) (hp : p < L.length) : L.getD p 0 = 0 := by
  rw [List.drop_eq_getElem_cons hp, lead0] at h
  split at h
  · rename_i h0
    simp [List.getD, hp, h0]
  · omega
theorem lead0_next (L : List Int) (p : Nat) (h : p + lead0 (L.drop p) < L.length) : L.getD (p + lead0 (L.drop p)) 0 ≠ 0 := by
  rcases lead0_drop (L.drop p) with e | ⟨x, r, e, hx⟩
  · have := congrArg List.length e
    simp at this; omega
  · rw [List.drop_drop, List.drop_eq_getElem_cons h] at e
    injection e with e1 e2
    intro h0
    apply hx
    rw [← e1]
    simpa [List.getD, h] using h0
theorem dataX_done (L : List Int) (n : Int) (f : Nat) (told : Int) (out : List Int) (last : Int) (i : Nat) (hf : 0 < f) (h : ¬ told < n) : dataX L false n f told out last (.ok i) = (out, .ok i) := by
  obtain ⟨f, rfl⟩ : ∃ m, f = m + 1 := ⟨f - 1, by omega⟩
  rw [dataX, if_neg h]
/-- one hole read -/
theorem dataX_hole (L : List Int) (n : Int) (f : Nat) (told : Int) (out : List Int) (last : Int) (i k : Nat) (rest : List Int) (hd : L.drop i = 0 :: (le (k : Int) 4 ++ rest)) (hi : i ≤ L.length) (hl : last ≠ 0) (h16 : 16 ≤ k) (hk : told + (k : Int) ≤ n) (hk4 : k < 4294967296) :
    dataX L false n (f + 1) told out last (.ok i) = dataX L false n f (told + (k : Int)) (out ++ List.replicate k 0) 0 (.ok (i + 5)) ∧ L.drop (i + 5) = rest ∧ i + 5 ≤ L.length := by
  obtain ⟨a1, a2, a3⟩ := one_at (low := 0) (high := 1) hd hi (by decide) (by decide) (by decide) (by decide)
  obtain ⟨b1, b2, b3⟩ := num_at (n := 4) (low := 16) (high := n - told) a2 a3 (by omega) (by rw [show (256 : Int) ^ 4 = 4294967296 by decide]; omega) (by omega) (by omega)
  refine ⟨?_, b2, b3⟩
  rw [dataX, if_pos (by omega), a1]
  have e1 : orFail (.ok (i + 1)) (decide ((0 : Int) = last)) = .ok (i + 1) := by
    rw [decide_eq_false (fun e => hl e.symm)]; rfl
  simp only [e1, if_true]
  rw [b1]
  simp only [Bool.false_eq_true, if_false, Int.toNat_natCast]
  rw [if_neg (by decide)]
/-- one filled stretch read -/
theorem dataX_full (L : List Int) (n : Int) (f : Nat) (told : Int) (out : List Int) (last : Int) (i : Nat) (bs rest : List Int) (hd : L.drop i = 1 :: (le (bs.length : Int) 4 ++ (bs ++ rest))) (hi : i ≤ L.length) (hl : last ≠ 1) (h1 : 1 ≤ bs.length) (hk : told + (bs.length : Int) ≤ n) (hk4 : bs.length < 4294967296)
    (hF : filledB bs (decide (last = 0)) (decide (told + (bs.length : Int) < n)) = true) :
    dataX L false n (f + 1) told out last (.ok i) = dataX L false n f (told + (bs.length : Int)) (out ++ bs) 1 (.ok (i + 5 + bs.length)) ∧ L.drop (i + 5 + bs.length) = rest ∧ i + 5 + bs.length ≤ L.length := by
  obtain ⟨a1, a2, a3⟩ := one_at (low := 0) (high := 1) hd hi (by decide) (by decide) (by decide) (by decide)
  obtain ⟨b1, b2, b3⟩ := num_at (n := 4) (low := 1) (high := n - told) a2 a3 (by omega) (by rw [show (256 : Int) ^ 4 = 4294967296 by decide]; omega) (by omega) (by omega)
  obtain ⟨c1, c2, c3⟩ := take_at b2 b3
  refine ⟨?_, c2, c3⟩
  rw [dataX, if_pos (by omega), a1]
  have e1 : orFail (.ok (i + 1)) (decide ((1 : Int) = last)) = .ok (i + 1) := by
    rw [decide_eq_false (fun e => hl e.symm)]; rfl
  have e2 : ¬ ((1 : Int) = 0) := by decide
  simp only [e1, if_neg e2]
  rw [b1]
  simp only [Int.toNat_natCast, if_true]
  have c1' : takeX L bs.length (.ok (i + 1 + 4)) = (bs, .ok (i + 1 + 4 + bs.length)) := c1
  rw [c1']
  simp only [hF, Bool.not_true, orFail, Bool.false_eq_true, if_false]
/-- the data read from a place on -/
theorem data_at (L D : List Int) (hD : D.length ≤ 16777216) : ∀ (d f g p i : Nat) (last : Int) (rest : List Int), p + d = D.length → d < f → d ≤ g → L.drop i = (stretS D g p).flatMap (stretB D) ++ rest → i ≤ L.length →
    (last = -1 ∨ (last = 0 ∧ (p < D.length → D.getD p 0 ≠ 0))) → ∃ j, dataX L false (D.length : Int) f (p : Int) (D.take p) last (.ok i) = (D, .ok j) ∧ L.drop j = rest ∧ j ≤ L.length := by
  intro d
  induction d using Nat.strongRecOn with
  | _ d ih =>
  intro f g p i last rest hd hf hg hL hi hlast
  by_cases hp : p < D.length
  · obtain ⟨g, rfl⟩ : ∃ m, g = m + 1 := ⟨g - 1, by omega⟩
    obtain ⟨f, rfl⟩ : ∃ m, f = m + 1 := ⟨f - 1, by omega⟩
    by_cases h16 : 16 ≤ lead0 (D.drop p)
    · have hl := lead0_le (D.drop p)
      rw [List.length_drop] at hl
      have hl0 : last ≠ 0 := by
        rcases hlast with e | ⟨e, h⟩
        · omega
        · exact absurd (nh_zero D p (by omega) hp) (h hp)
      rw [stretS_hole D g p hp h16, List.flatMap_cons, List.append_assoc] at hL
      have hL2 : L.drop i = 0 :: (le ((lead0 (D.drop p) : Nat) : Int) 4 ++ ((stretS D g (p + lead0 (D.drop p))).flatMap (stretB D) ++ rest)) := by
        rw [hL]; simp [stretB]
      obtain ⟨e1, e2, e3⟩ := dataX_hole L (D.length : Int) f (p : Int) (D.take p) last i (lead0 (D.drop p)) _ hL2 hi hl0 h16 (by omega) (by omega)
      have ht : D.take p ++ List.replicate (lead0 (D.drop p)) 0 = D.take (p + lead0 (D.drop p)) := by
        rw [List.take_add, lead0_zeros]
      obtain ⟨j, h1, h2, h3⟩ := ih (d - lead0 (D.drop p)) (by omega) f g (p + lead0 (D.drop p)) (i + 5) 0 rest (by omega) (by omega) (by omega) e2 e3 (.inr ⟨rfl, fun h => lead0_next D p h⟩)
      refine ⟨j, ?_, h2, h3⟩
      rw [e1, ht]
      rw [← h1]
      congr 1
    · have hgt := nhL_gt D p hp (by omega)
      have hb := nhL_bounds (D.drop p) 0 p (by omega)
      rw [List.length_drop] at hb
      have hat := nhL_at D d p hd
      obtain ⟨hfu1, hfu2⟩ := nhL_full D d p hd
      rw [stretS, if_pos hp, if_pos hgt] at hL
      obtain ⟨q, hq⟩ : ∃ q, (nhL (D.drop p) 0 p).1 = q := ⟨_, rfl⟩
      obtain ⟨t, ht⟩ : ∃ t, (nhL (D.drop p) 0 p).2 = t := ⟨_, rfl⟩
      rw [hq] at hgt hb hat hfu1 hfu2
      rw [ht] at hat hb
      rw [hq, ht, List.singleton_append, List.flatMap_cons, List.append_assoc] at hL
      obtain ⟨bs, hbs⟩ : ∃ bs, (D.drop p).take (q - p) = bs := ⟨_, rfl⟩
      have hbl : bs.length = q - p := by rw [← hbs, List.length_take, List.length_drop]; omega
      have hL2 : L.drop i = 1 :: (le (bs.length : Int) 4 ++ (bs ++ (List.flatMap (stretB D) ((if q < t then [(0, q, t - q)] else []) ++ stretS D g t) ++ rest))) := by
        rw [hL]
        simp only [stretB, if_true, hbs, hbl, List.cons_append, List.append_assoc]
        rfl
      have hF : filledB bs (decide (last = 0)) (decide ((p : Int) + (bs.length : Int) < (D.length : Int))) = true := by
        unfold filledB
        rw [← hbs, hfu1]
        have h1 : ((D.drop p).take (q - p)).isEmpty = false := by
          rw [hbs]
          cases bs with
          | nil => simp at hbl; omega
          | cons x r => rfl
        rw [h1, getD_head D p (q - p) hp (by omega), getD_last D p (q - p) (by omega) (by omega)]
        have h2 : (decide (last = 0) && (D.getD p 0 == 0)) = false := by
          rcases hlast with e | ⟨e, h⟩
          · rw [e]; rfl
          · have h5 : (D.getD p 0 == 0) = false := by rw [beq_eq_false_iff_ne]; exact h hp
            rw [h5, Bool.and_false]
        rw [h2]
        have h3 : (decide ((p : Int) + (((D.drop p).take (q - p)).length : Int) < (D.length : Int)) && (D.getD (p + (q - p) - 1) 0 == 0)) = false := by
          by_cases hq2 : q < D.length
          · rcases hfu2 hq2 with e | ⟨_, e⟩
            · omega
            · have h5 : (D.getD (q - 1) 0 == 0) = false := by rw [beq_eq_false_iff_ne]; exact e
              rw [show p + (q - p) - 1 = q - 1 by omega, h5, Bool.and_false]
          · rw [hbs, hbl, decide_eq_false (by omega)]
            rfl
        rw [h3]
        rfl
      obtain ⟨e1, e2, e3⟩ := dataX_full L (D.length : Int) f (p : Int) (D.take p) last i bs _ hL2 hi (by rcases hlast with e | ⟨e, _⟩ <;> omega) (by omega) (by omega) (by omega) hF
      have htk : D.take p ++ bs = D.take q := by
        rw [← hbs, ← List.take_add, show p + (q - p) = q by omega]
      rcases hat with ⟨hq2, ht2⟩ | ⟨hq2, ht2⟩
      · refine ⟨i + 5 + bs.length, ?_, ?_, e3⟩
        · rw [e1, dataX_done _ _ _ _ _ _ _ (by omega) (by omega), htk, hq2, List.take_length]
        · rw [e2, if_neg (by omega), stretS_len D g t (by omega)]
          rfl
      · have hl := lead0_le (D.drop q)
        rw [List.length_drop] at hl
        obtain ⟨f, rfl⟩ : ∃ m, f = m + 1 := ⟨f - 1, by omega⟩
        rw [if_pos (by omega), List.singleton_append, List.flatMap_cons, List.append_assoc] at e2
        have hL3 : L.drop (i + 5 + bs.length) = 0 :: (le ((lead0 (D.drop q) : Nat) : Int) 4 ++ ((stretS D g t).flatMap (stretB D) ++ rest)) := by
          rw [e2]
          have : t - q = lead0 (D.drop q) := by omega
          simp [stretB, this]
        obtain ⟨g1, g2, g3⟩ := dataX_hole L (D.length : Int) f ((p : Int) + (bs.length : Int)) (D.take p ++ bs) 1 (i + 5 + bs.length) (lead0 (D.drop q)) _ hL3 e3 (by decide) hq2 (by omega) (by omega)
        have ht3 : D.take p ++ bs ++ List.replicate (lead0 (D.drop q)) 0 = D.take t := by
          rw [htk, ← lead0_zeros, ← List.take_add, ht2]
        obtain ⟨j, h1, h2, h3⟩ := ih (d - (q - p) - lead0 (D.drop q)) (by omega) f g t (i + 5 + bs.length + 5) 0 rest (by omega) (by omega) (by omega) g2 g3 (.inr ⟨rfl, fun h => by rw [ht2] at h ⊢; exact lead0_next D q h⟩)
        refine ⟨j, ?_, h2, h3⟩
        rw [e1, g1, ht3, ← h1]
        congr 1
        omega
  · have hs : stretS D g p = [] := stretS_len D g p (by omega)
    rw [hs] at hL
    exact ⟨i, by rw [dataX_done _ _ _ _ _ _ _ (by omega) (by omega), List.take_of_length_le (by omega)], by simpa using hL, hi⟩
end Go.Proofs.YtlnaeppbhjmocaaDoor
