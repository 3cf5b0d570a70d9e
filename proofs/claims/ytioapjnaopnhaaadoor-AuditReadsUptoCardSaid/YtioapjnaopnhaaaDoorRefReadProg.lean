/- The document's own Read of a report's text (shaleref19), for every text: what 'readL' says. -/
import Derived.Test.YtioapjnaopnhaaaDoorRefRead
import Derived.Test.YtioapjnaopnhaaaDoorReadProg2
import Derived.Deep.DeepCutAuto
import Derived.Deep.CutBlock
set_option linter.unusedSimpArgs false
set_option linter.unusedVariables false
namespace Go.Proofs.YtioapjnaopnhaaaDoor
open Go.RowKit Go.Proofs

theorem fr_drawn {w w' : World} (hw : Ok w) (h : YtioapjnaopnhaaaDoorW.PrintWords.Drawn0 w w') : Fr w w' := Fr.of hw h.below
theorem line_any (t : List UInt8) (w : World) (hw : Ok w) (ht : t.length ≤ 1099511627776) :
    Calls Tryd.prog 23 #[.string ⟨t.toArray⟩] w fun e w' => e = .returned (.tuple #[.string ⟨(lineL t).1.toArray⟩, .string ⟨(lineL t).2.toArray⟩]) ∧ Fr w w' :=
  (Pline.shaleref19_line.calls _ (bs t) _ _ w (line_f t ht)).mono fun _ _ ⟨he, hd⟩ => ⟨he, fr_drawn hw hd⟩
/-- words in memory -/
def WRow (w : World) (A : Option Addr) (l : List (List UInt8)) : Prop := ∀ i x, l[i]? = some x → ∃ g, A = some ⟨g, 0, none⟩ ∧ w.cell? ⟨g, i, none⟩ = some (.string ⟨x.toArray⟩)
theorem words_any (t : List UInt8) (l : List (List UInt8)) (n : Nat) (hl : wordsF [] t = l) (hn : l.length = n) (w : World) (hw : Ok w) (ht : t.length ≤ 1099511627776) :
    Calls Tryd.prog 24 #[.string ⟨t.toArray⟩] w fun e w' => Fr w w' ∧ ∃ A c, e = .returned (.slice A n c) ∧ WRow w' A l := by
  refine (Pwords.shaleref19_words.calls _ (bs t) _ w (words_f t ht)).mono ?_
  rintro e w' ⟨v, rfl, hR, hb⟩
  refine ⟨Fr.of hw hb, ?_⟩
  obtain ⟨A, c, rfl, hlc, hC⟩ := YtioapjnaopnhaaaDoorW.PrintWords.Kd.R_reads hR
  obtain ⟨inner, hown⟩ := YtioapjnaopnhaaaDoorW.PrintWords.Kd.R_own hR
  subst hl
  rw [List.length_map] at hC hlc hown ⊢
  subst hn
  refine ⟨A, c, rfl, fun i x hx => ?_⟩
  have hi : i < (wordsF [] t).length := (List.getElem?_eq_some_iff.1 hx).1
  obtain ⟨ad, rfl, hc⟩ := hC.2.2 (by omega)
  obtain ⟨cs, hcl, hcs, hcell⟩ := hc i (bs x) (by simp [hx])
  have hcs' : cs = [.string (bs x)] := hcs
  subst hcs'
  have h1 := hcell 0 _ rfl
  obtain ⟨g, cap, hg, _⟩ := hown.form (by omega)
  injection hg with hg
  injection hg with hg
  subst hg
  refine ⟨g, rfl, ?_⟩
  rw [Lib.add_plain] at h1
  have hsz : (YtioapjnaopnhaaaDoorW.PrintWords.Kd.string).sz = 1 := rfl
  rw [hsz] at h1
  simpa using h1
theorem WRow.fr {w w' : World} {A : Option Addr} {l : List (List UInt8)} (h : WRow w A l) (q : Fr w w') : WRow w' A l := fun i x hx => by
  obtain ⟨g, hg, hc⟩ := h i x hx
  exact ⟨g, hg, q.cell hc⟩

theorem setR {w0 w : World} {g : Nat} {cs : Array Value} {t : TypeId} (f : Fr w0 w) (hB : w0.heap.size ≤ g) (hg : 9 ≤ w0.heap.size) (H : w.heap[g]? = some (.cells cs t (0, 0))) (j : Nat) (v : Value) :
    ∃ w1, w.setCell ⟨g, j, none⟩ v = w1 ∧ w1.heap[g]? = some (.cells (cs.setIfInBounds j v) t (0, 0)) ∧ Fr w0 w1 ∧ (∀ k o, w.heap[k]? = some o → k ≠ g → w1.heap[k]? = some o) := by
  obtain ⟨w1, e, H1, hb, ho⟩ := set_step (Below.refl g w) (Nat.le_refl g) H j v
  exact ⟨w1, e, H1, ⟨f.below.trans (hb.mono hB), f.ok.set (by omega) hb⟩, ho⟩

def zcells : Array Value := #[.int .u64 0, .int .i64 0, .int .i64 0, .int .i64 0, .int .i64 0, .bool false, .slice none 0 0]
theorem lineL_len (t : List UInt8) : (lineL t).1.length ≤ t.length ∧ (lineL t).2.length ≤ t.length ∧ (t ≠ [] → (lineL t).2.length < t.length) := by
  unfold lineL
  cases hb : brk 10 t with
  | none => exact ⟨Nat.le_refl _, by simp, fun h => by simp; exact List.length_pos_iff.2 h⟩
  | some p =>
    obtain ⟨a, b⟩ := p
    obtain ⟨e, _⟩ := brk_some hb
    subst e
    simp
    omega

theorem own_set {w w1 : World} {g base n : Nat} {e size j : Nat} {v x : Value} {xs : List Value} (hv : w.setCell ⟨g, j, none⟩ x = w1) (h : w.ownsRow base e size v n xs) (hg : g < base) : w1.ownsRow base e size v n xs := by
  subst hv
  refine h.kept (row := some g) ⟨rfl, rfl, rfl, by simp [World.setCell], fun k hk hne => Below.heap_setCell w _ _ k (fun e => hne (by rw [e]))⟩ (.inr fun hk => by have := own_base' h g hk; omega)
theorem setK_fs (k : Nat) (r : Rep) (x : List UInt8) : (setK k r x).fs = r.fs := by unfold setK; split <;> rfl
theorem setK_wf (k : Nat) (r : Rep) (x : List UInt8) (h : r.wf) : (setK k r x).wf := by
  obtain ⟨h0, h1, h2, h3, h4, h5⟩ := h
  have hu := unsL_le x
  unfold setK
  split <;> first | exact ⟨h0, numL_i64 x, h2, h3, h4, h5⟩ | exact ⟨h0, h1, numL_i64 x, h3, h4, h5⟩ | exact ⟨h0, h1, h2, numL_i64 x, h4, h5⟩ | exact ⟨h0, h1, h2, h3, numL_i64 x, h5⟩ | exact ⟨h0, h1, h2, h3, h4, h5⟩ | exact ⟨⟨by show (0 : Int) ≤ ((unsL x).1 : Int); omega, by show ((unsL x).1 : Int) ≤ _; omega⟩, h1, h2, h3, h4, h5⟩
theorem wordsF_le : ∀ (r cur : List UInt8) (i : Nat) (x : List UInt8), (wordsF cur r)[i]? = some x → x.length ≤ cur.length + r.length
  | [], cur, i, x, h => by
    cases i with
    | zero => simp [wordsF] at h; subst h; simp
    | succ i => simp [wordsF] at h
  | c :: r, cur, i, x, h => by
    simp only [wordsF] at h
    split at h
    · cases i with
      | zero => simp at h; subst h; omega
      | succ i => simp at h
    · split at h
      · cases i with
        | zero => simp at h; subst h; omega
        | succ i =>
          have := wordsF_le r [] i x (by simpa using h)
          simp only [List.length_cons, List.length_nil] at this ⊢
          omega
      · have := wordsF_le r (cur ++ [c]) i x h
        simp only [List.length_append, List.length_cons, List.length_nil] at this ⊢
        omega
theorem word_le (s x : List UInt8) (i : Nat) (h : (wordsF [] s)[i]? = some x) : x.length ≤ s.length := by
  have := wordsF_le s [] i x h
  simpa using this

set_option maxHeartbeats 12800000 in
set_option maxRecDepth 100000 in
theorem refRead_go (t : List UInt8) (w : World) (hw : Ok w) (ht : t.length ≤ 1073741824) (hsz : 9 ≤ w.heap.size) :
    Calls Tryd.prog 9 #[.string ⟨t.toArray⟩] w fun e w' => Fr w w' ∧ endRead w.heap.size (readL t) e w' := by
  obtain ⟨w1, g, hg, hw1, f1, hz1, HR⟩ := boxedH hw zcells 25
  obtain ⟨w2, g1, hg1, hw2, f2, hz2, H⟩ := boxedH f1.ok zcells 25
  unfold zcells at *
  have l1 : g < g1 := by omega
  have hB : w.heap.size ≤ g := by omega
  replace HR := f2.heap HR
  have f := f1.trans f2
  clear hz1 hz2 f1 f2
  have HK := Lib.hid (readR_readL t)
  go_enter Tryd.func9, Tryd.ntmps9
  go_wp2
  go_loopg [0, 6] 6 (fun q s n W => ∃ (k : Nat) (tt : List UInt8) (r : Rep), Hid (q = 6 - k ∧ k ≤ 6) ∧ s = .string ⟨tt.toArray⟩ ∧ n = .int .i64 k ∧ Fr w W ∧ W.heap[g]? = some (.cells #[.int .u64 0, .int .i64 0, .int .i64 0, .int .i64 0, .int .i64 0, .bool false, .slice none 0 0] 25 (0, 0)) ∧
      W.heap[g1]? = some (.cells #[.int .u64 r.floor, .int .i64 r.counted, .int .i64 r.live, .int .i64 r.used, .int .i64 r.bad, .bool r.saved, .slice none 0 0] 25 (0, 0)) ∧ Hid (r.wf ∧ r.fs = [] ∧ tt.length ≤ t.length) ∧ Hid (readR (6 - k) k r tt = readL t))
  case atStart => exact ⟨0, t, zeroR, Lib.hid ⟨rfl, by omega⟩, rfl, rfl, f, HR, H, Lib.hid ⟨by simp [Rep.wf, U64, I64, zeroR], rfl, Nat.le_refl _⟩, HK⟩
  case round =>
    clear f HR H HK
    obtain ⟨k, tt, r, hq, rfl, rfl, f, HR, H, hr, HK⟩ := hrel
    obtain ⟨rfl, hk⟩ := hq.out
    clear hq
    by_cases hlt : k < 6
    · obtain ⟨hwf, hfs, hlen⟩ := hr.out
      have hL := lineL_len tt
      have HBAD : Hid (stepR k r tt = none → readL t = .error (k + 1)) := Lib.hid (fun e => by rw [← HK.out, show 6 - k = (5 - k) + 1 by omega, readR, e])
      have HGOOD : Hid (∀ p, stepR k r tt = some p → readR (6 - (k + 1)) (k + 1) p.1 p.2 = readL t) := Lib.hid (fun p e => by rw [← HK.out, show 6 - k = (5 - k) + 1 by omega, readR, e]; simp only; congr 1; omega)
      obtain ⟨s, rest, hs⟩ : ∃ s rest, Hid (lineL tt = (s, rest)) := ⟨_, _, Lib.hid rfl⟩
      have hls : s.length ≤ tt.length := by have := hL.1; rw [hs.out] at this; exact this
      have hlr : rest.length ≤ tt.length := by have := hL.2.1; rw [hs.out] at this; exact this
      have CL := line_any tt
      rw [hs.out] at CL
      have HCL := Lib.hid CL
      clear CL hL HK hr
      have HW : Hid (wordsF [] s = wordsR tt) := Lib.hid (by unfold wordsR; rw [hs.out])
      by_cases hn2 : (wordsR tt).length = 2
      · obtain ⟨x, y, hxy⟩ : ∃ x y, wordsR tt = [x, y] := by
          match h : wordsR tt, hn2 with
          | [x, y], _ => exact ⟨x, y, rfl⟩
        rw [hxy] at HW
        have HST : Hid (stepR k r tt = if k = 0 ∧ (unsL y).2 = false then none else if (headsL (setK k r y)).getD k [] = s then some (setK k r y, rest) else none) := Lib.hid (by unfold stepR; rw [hxy, hs.out]; rfl)
        clear hn2 hxy
        go_upto_block 2 with (first
          | (go_at_call 23; refine (HCL.out _ f.ok (by omega)).mono ?_; rintro e wq ⟨rfl, q⟩; replace H := q.heap H; replace HR := q.heap HR; replace f := f.trans q; clear q)
          | (go_at_call 24; refine (words_any s [x, y] 2 HW.out rfl _ f.ok (by omega)).mono ?_; rintro e wq ⟨q, A, c9, rfl, hcell⟩; obtain ⟨g9, rfl, e1⟩ := hcell 1 y rfl; clear hcell; replace H := q.heap H; replace HR := q.heap HR; replace f := f.trans q; clear q))
        go_cut [10, 11] (fun v10 v11 wc => Hid (¬ (k = 0 ∧ (unsL y).2 = false)) ∧ Fr w wc ∧ wc.heap[g]? = some (.cells #[.int .u64 0, .int .i64 0, .int .i64 0, .int .i64 0, .int .i64 0, .bool false, .slice none 0 0] 25 (0, 0)) ∧
          wc.heap[g1]? = some (.cells #[.int .u64 (setK k r y).floor, .int .i64 (setK k r y).counted, .int .i64 (setK k r y).live, .int .i64 (setK k r y).used, .int .i64 (setK k r y).bad, .bool (setK k r y).saved, .slice none 0 0] 25 (0, 0)))
        case first =>
          have hy : (bs y).size ≤ 1099511627776 := by
            have h1 : y.length ≤ s.length := word_le s y 1 (by rw [HW.out]; rfl)
            simp only [ByteArray.size, List.size_toArray]; omega
          have hk6 : k = 0 ∨ k = 1 ∨ k = 2 ∨ k = 3 ∨ k = 4 ∨ k = 5 := by omega
          rcases hk6 with rfl | rfl | rfl | rfl | rfl | rfl
          · by_cases hu : (unsL y).2 = false
            · have HE := Lib.hid (HBAD.out (by rw [HST.out, if_pos ⟨rfl, hu⟩]))
              have HU := Lib.hid hu
              clear hu
              obtain ⟨b0, b1, b2, b3, b4, b5, b6⟩ := blk7 HR
              have z := unfrozen HR
              have i0 := set_idem HR 0 (.int .u64 0) rfl
              have i1 := set_idem HR 1 (.int .i64 0) rfl
              have i2 := set_idem HR 2 (.int .i64 0) rfl
              have i3 := set_idem HR 3 (.int .i64 0) rfl
              have i4 := set_idem HR 4 (.int .i64 0) rfl
              have i5 := set_idem HR 5 (.bool false) rfl
              have i6 := set_idem HR 6 (.slice none 0 0) rfl
              go_wp2_with (go_at_call 25; refine (refUnsigned_any (bs y) _ hy).mono ?_; rw [HU.out]; rintro e wx ⟨rfl, rfl⟩)
              refine bodyPost_ret (v := .tuple #[repV zeroRep none 0, .int .i64 200, .int .i64 (1)]) (by simp [results, Tryd.results9, go_sem, b0, b1, b2, b3, b4, b5, b6, repV, zeroRep]) rfl ⟨f, ?_⟩
              rw [HE.out]; exact rfl
            · have hu' : (unsL y).2 = true := by simpa using hu
              have HU := Lib.hid hu'
              clear hu hu'
              obtain ⟨w5, hw5, H5, f5, o5⟩ := setR f (Nat.le_trans hB (Nat.le_of_lt l1)) hsz H 0 (.int .u64 ((unsL y).1 : Int))
              have z := unfrozen H
              obtain ⟨c0, c1, c2, c3, c4, c5, c6⟩ := blk7 H
              have HR5 := o5 _ _ HR (by omega)
              clear o5
              go_wp2_with (go_at_call 25; refine (refUnsigned_any (bs y) _ hy).mono ?_; rw [HU.out]; rintro e wx ⟨rfl, rfl⟩)
              go_meet
              case rel => exact ⟨Lib.hid (by simp [HU.out]), f5, HR5, H5⟩
          · obtain ⟨w5, hw5, H5, f5, o5⟩ := setR f (Nat.le_trans hB (Nat.le_of_lt l1)) hsz H 1 (.int .i64 (numL y))
            have z := unfrozen H
            obtain ⟨c0, c1, c2, c3, c4, c5, c6⟩ := blk7 H
            have HR5 := o5 _ _ HR (by omega)
            clear o5
            go_wp2_with (go_at_call 26; refine (refNumber_any (bs y) _ hy).mono ?_; rintro e wx ⟨rfl, rfl⟩)
            go_meet
            case rel => exact ⟨Lib.hid (fun h => by cases h.1), f5, HR5, H5⟩
          · obtain ⟨w5, hw5, H5, f5, o5⟩ := setR f (Nat.le_trans hB (Nat.le_of_lt l1)) hsz H 2 (.int .i64 (numL y))
            have z := unfrozen H
            obtain ⟨c0, c1, c2, c3, c4, c5, c6⟩ := blk7 H
            have HR5 := o5 _ _ HR (by omega)
            clear o5
            go_wp2_with (go_at_call 26; refine (refNumber_any (bs y) _ hy).mono ?_; rintro e wx ⟨rfl, rfl⟩)
            go_meet
            case rel => exact ⟨Lib.hid (fun h => by cases h.1), f5, HR5, H5⟩
          · obtain ⟨w5, hw5, H5, f5, o5⟩ := setR f (Nat.le_trans hB (Nat.le_of_lt l1)) hsz H 3 (.int .i64 (numL y))
            have z := unfrozen H
            obtain ⟨c0, c1, c2, c3, c4, c5, c6⟩ := blk7 H
            have HR5 := o5 _ _ HR (by omega)
            clear o5
            go_wp2_with (go_at_call 26; refine (refNumber_any (bs y) _ hy).mono ?_; rintro e wx ⟨rfl, rfl⟩)
            go_meet
            case rel => exact ⟨Lib.hid (fun h => by cases h.1), f5, HR5, H5⟩
          · obtain ⟨w5, hw5, H5, f5, o5⟩ := setR f (Nat.le_trans hB (Nat.le_of_lt l1)) hsz H 4 (.int .i64 (numL y))
            have z := unfrozen H
            obtain ⟨c0, c1, c2, c3, c4, c5, c6⟩ := blk7 H
            have HR5 := o5 _ _ HR (by omega)
            clear o5
            go_wp2_with (go_at_call 26; refine (refNumber_any (bs y) _ hy).mono ?_; rintro e wx ⟨rfl, rfl⟩)
            go_meet
            case rel => exact ⟨Lib.hid (fun h => by cases h.1), f5, HR5, H5⟩
          · obtain ⟨w5, hw5, H5, f5, o5⟩ := setR f (Nat.le_trans hB (Nat.le_of_lt l1)) hsz H 5 (.bool (y == [121, 101, 115]))
            have z := unfrozen H
            obtain ⟨c0, c1, c2, c3, c4, c5, c6⟩ := blk7 H
            have HR5 := o5 _ _ HR (by omega)
            clear o5
            go_wp2_with fail
            go_meet
            case rel => exact ⟨Lib.hid (fun h => by cases h.1), f5, HR5, by rw [show (setK 5 r y).saved = (y == [121, 101, 115]) from (by show decide (y = [121, 101, 115]) = (y == [121, 101, 115]); rw [Bool.eq_iff_iff]; simp)]; exact H5⟩
        case rest =>
          obtain ⟨hno, f, HR, H⟩ := hcut
          have HST : Hid (stepR k r tt = if (headsL (setK k r y)).getD k [] = s then some (setK k r y, rest) else none) := Lib.hid (by rw [HST.out, if_neg hno.out])
          clear hno
          obtain ⟨r', hr'⟩ : ∃ r', Hid (setK k r y = r') := ⟨_, Lib.hid rfl⟩
          have hwf' : r'.wf := by rw [← hr'.out]; exact setK_wf k r y hwf
          have hfs' : r'.fs = [] := by rw [← hr'.out]; exact (setK_fs k r y).trans hfs
          rw [hr'.out] at H HST
          obtain ⟨hd, hhd⟩ : ∃ hd, Hid ((headsL r')[k]? = some hd) := by
            have : k < (headsL r').length := by simp [headsL]; omega
            exact ⟨_, Lib.hid (List.getElem?_eq_getElem this)⟩
          have hgd : (headsL r').getD k [] = hd := by rw [List.getD_eq_getElem?_getD, hhd.out]; rfl
          rw [hgd] at HST
          clear hgd hr'
          obtain ⟨c0, c1, c2, c3, c4, c5, c6⟩ := blk7 H
          have hk0 : (0 : Int) ≤ (k : Int) := by omega
          have hk6 : (k : Int) < 6 := by omega
          by_cases heq : hd = s
          · have hb : (hd == s) = true := by simpa using heq
            have hb' : (hd != s) = false := by simpa using heq
            have HK : Hid (readR (6 - (k + 1)) (k + 1) r' rest = readL t) := Lib.hid (HGOOD.out (r', rest) (by rw [HST.out, if_pos heq]))
            have HX : Hid (r'.wf ∧ r'.fs = [] ∧ rest.length ≤ t.length) := Lib.hid ⟨hwf', hfs', by omega⟩
            clear heq
            go_wp2_with (go_at_call 21; refine (heads_any r' (.slice none 0 0) _ f.ok hwf').mono ?_; rintro e wx ⟨gh, rfl, q, hH⟩; have hc := hH k hd hhd.out; clear hH; replace H := q.heap H; replace HR := q.heap HR; replace f := f.trans q; clear q c0 c1 c2 c3 c4 c5 c6)
            go_roundg (6 - (k + 1))
            case measure => omega
            case rel => exact ⟨k + 1, rest, r', Lib.hid ⟨rfl, by omega⟩, rfl, by go_num, f, HR, H, HX, HK⟩
          · have hb : (hd == s) = false := by simpa using heq
            have hb' : (hd != s) = true := by simpa using heq
            have HE : Hid (readL t = .error (k + 1)) := Lib.hid (HBAD.out (by rw [HST.out, if_neg heq]))
            clear heq
            go_wp2_with (go_at_call 21; refine (heads_any r' (.slice none 0 0) _ f.ok hwf').mono ?_; rintro e wx ⟨gh, rfl, q, hH⟩; have hc := hH k hd hhd.out; clear hH; replace H := q.heap H; replace HR := q.heap HR; replace f := f.trans q; clear q c0 c1 c2 c3 c4 c5 c6; obtain ⟨b0, b1, b2, b3, b4, b5, b6⟩ := blk7 HR; have z := unfrozen HR; have i0 := set_idem HR 0 (.int .u64 0) rfl; have i1 := set_idem HR 1 (.int .i64 0) rfl; have i2 := set_idem HR 2 (.int .i64 0) rfl; have i3 := set_idem HR 3 (.int .i64 0) rfl; have i4 := set_idem HR 4 (.int .i64 0) rfl; have i5 := set_idem HR 5 (.bool false) rfl; have i6 := set_idem HR 6 (.slice none 0 0) rfl)
            refine bodyPost_ret (v := .tuple #[repV zeroRep none 0, .int .i64 200, .int .i64 ((k : Int) + 1)]) (by simp [results, Tryd.results9, go_sem, b0, b1, b2, b3, b4, b5, b6, repV, zeroRep]) rfl ⟨f, ?_⟩
            rw [HE.out]; exact rfl
      · have HE : Hid (readL t = .error (k + 1)) := Lib.hid (HBAD.out (by unfold stepR; rw [if_neg hn2]))
        obtain ⟨n, hn⟩ : ∃ n, (wordsR tt).length = n := ⟨_, rfl⟩
        rw [hn] at hn2
        have hb : ((n : Int) == 2) = false := by rw [beq_eq_false_iff_ne]; omega
        have hb' : ((n : Int) != 2) = true := by simp; omega
        have HN := Lib.hid hn
        clear hn hn2 HBAD HGOOD
        go_wp2_with (first
          | (go_at_call 23; refine (HCL.out _ f.ok (by omega)).mono ?_; rintro e wq ⟨rfl, q⟩; replace H := q.heap H; replace HR := q.heap HR; replace f := f.trans q; clear q)
          | (go_at_call 24; refine (words_any s (wordsR tt) n HW.out HN.out _ f.ok (by omega)).mono ?_; rintro e wq ⟨q, A, c9, rfl, hcell⟩; clear hcell; replace H := q.heap H; replace HR := q.heap HR; replace f := f.trans q; clear q; obtain ⟨b0, b1, b2, b3, b4, b5, b6⟩ := blk7 HR; have z := unfrozen HR; have i0 := set_idem HR 0 (.int .u64 0) rfl; have i1 := set_idem HR 1 (.int .i64 0) rfl; have i2 := set_idem HR 2 (.int .i64 0) rfl; have i3 := set_idem HR 3 (.int .i64 0) rfl; have i4 := set_idem HR 4 (.int .i64 0) rfl; have i5 := set_idem HR 5 (.bool false) rfl; have i6 := set_idem HR 6 (.slice none 0 0) rfl))
        refine bodyPost_ret (v := .tuple #[repV zeroRep none 0, .int .i64 200, .int .i64 ((k : Int) + 1)]) (by simp [results, Tryd.results9, go_sem, b0, b1, b2, b3, b4, b5, b6, repV, zeroRep]) rfl ⟨f, ?_⟩
        rw [HE.out]; exact rfl
    · obtain rfl : k = 6 := by omega
      obtain ⟨hwf, hfs, hlen⟩ := hr.out
      have HT : Hid (tailR r tt = readL t) := Lib.hid HK.out
      clear HK hr hlt
      have own0 : wr.ownsRow (g1 + 1) 29 4 (.slice none 0 0) 0 (frow []) := ⟨by simp [frow], .inl ⟨rfl, rfl⟩⟩
      have hl1 : g1 < wr.heap.size := (Array.getElem?_eq_some_iff.1 H).1
      have HG : Hid (∃ fuel, tt.length ≤ fuel ∧ finsL tt.length 7 tt = glue [] (finsL fuel 7 tt)) := Lib.hid ⟨_, Nat.le_refl _, by cases finsL tt.length 7 tt <;> rfl⟩
      obtain ⟨tt0, htt0⟩ : ∃ tt0, Hid (tt0 = tt) := ⟨_, Lib.hid rfl⟩
      have HL0 : tt.length ≤ tt0.length := by rw [htt0.out]; exact Nat.le_refl _
      have HL1 : tt0.length ≤ t.length := by rw [htt0.out]; exact hlen
      rw [← htt0.out] at HT
      rw [show finsL tt.length 7 tt = finsL tt0.length 7 tt0 by rw [htt0.out]] at HG
      go_wp2_with fail
      go_loopg [0, 12] tt.length (fun q s n W => ∃ (m : Nat) (tt : List UInt8) (fs : List Fnd) (a : Option Addr) (c : Nat), Hid (q = tt.length ∧ m = 7 + fs.length) ∧ tt.length + fs.length ≤ tt0.length ∧ s = .string ⟨tt.toArray⟩ ∧ n = .int .i64 m ∧ Fr w W ∧ W.heap[g]? = some (.cells #[.int .u64 0, .int .i64 0, .int .i64 0, .int .i64 0, .int .i64 0, .bool false, .slice none 0 0] 25 (0, 0)) ∧
        W.heap[g1]? = some (.cells #[.int .u64 r.floor, .int .i64 r.counted, .int .i64 r.live, .int .i64 r.used, .int .i64 r.bad, .bool r.saved, .slice a fs.length c] 25 (0, 0)) ∧ W.ownsRow (g1 + 1) 29 4 (.slice a fs.length c) fs.length (frow fs) ∧ Hid (∃ fuel, tt.length ≤ fuel ∧ finsL tt0.length 7 tt0 = glue fs (finsL fuel (7 + fs.length) tt)))
      case atStart => exact ⟨7, tt, [], none, 0, Lib.hid ⟨rfl, rfl⟩, by simpa using HL0, rfl, rfl, f, HR, H, own0, HG⟩
      case round =>
        clear f HR H HG own0 HL0 hl1
        obtain ⟨m, tt, fs, a, c, hq, hlm, rfl, rfl, f, HR, H, hown, HG⟩ := hrel
        obtain ⟨rfl, hm⟩ := hq.out
        clear hq
        obtain ⟨fuel, hfu, hG⟩ := HG.out
        clear HG
        by_cases htt : tt = []
        · subst htt
          have HE : Hid (readL t = .ok { r with fs := fs }) := Lib.hid (by
            rw [← HT.out]; unfold tailR; rw [hG]
            cases fuel <;> simp [finsL, glue])
          clear hG hfu hm
          obtain ⟨c0, c1, c2, c3, c4, c5, c6⟩ := blk7 H
          obtain ⟨v0, hv0, HR0, f0, o0⟩ := setR f hB hsz HR 0 (.int .u64 r.floor)
          have z0 := unfrozen HR
          have k0 := (blk7 HR).1
          simp only [List.setIfInBounds_toArray, List.set_cons_zero, List.set_cons_succ] at HR0
          have own0 := own_set hv0 hown (by omega)
          obtain ⟨v1, hv1, HR1, f1, o1⟩ := setR f0 hB hsz HR0 1 (.int .i64 r.counted)
          have z1 := unfrozen HR0
          have k1 := (blk7 HR0).2.1
          simp only [List.setIfInBounds_toArray, List.set_cons_zero, List.set_cons_succ] at HR1
          have own1 := own_set hv1 own0 (by omega)
          obtain ⟨v2, hv2, HR2, f2, o2⟩ := setR f1 hB hsz HR1 2 (.int .i64 r.live)
          have z2 := unfrozen HR1
          have k2 := (blk7 HR1).2.2.1
          simp only [List.setIfInBounds_toArray, List.set_cons_zero, List.set_cons_succ] at HR2
          have own2 := own_set hv2 own1 (by omega)
          obtain ⟨v3, hv3, HR3, f3, o3⟩ := setR f2 hB hsz HR2 3 (.int .i64 r.used)
          have z3 := unfrozen HR2
          have k3 := (blk7 HR2).2.2.2.1
          simp only [List.setIfInBounds_toArray, List.set_cons_zero, List.set_cons_succ] at HR3
          have own3 := own_set hv3 own2 (by omega)
          obtain ⟨v4, hv4, HR4, f4, o4⟩ := setR f3 hB hsz HR3 4 (.int .i64 r.bad)
          have z4 := unfrozen HR3
          have k4 := (blk7 HR3).2.2.2.2.1
          simp only [List.setIfInBounds_toArray, List.set_cons_zero, List.set_cons_succ] at HR4
          have own4 := own_set hv4 own3 (by omega)
          obtain ⟨v5, hv5, HR5, f5, o5⟩ := setR f4 hB hsz HR4 5 (.bool r.saved)
          have z5 := unfrozen HR4
          have k5 := (blk7 HR4).2.2.2.2.2.1
          simp only [List.setIfInBounds_toArray, List.set_cons_zero, List.set_cons_succ] at HR5
          have own5 := own_set hv5 own4 (by omega)
          obtain ⟨v6, hv6, HR6, f6, o6⟩ := setR f5 hB hsz HR5 6 (.slice a fs.length c)
          have z6 := unfrozen HR5
          have k6 := (blk7 HR5).2.2.2.2.2.2
          simp only [List.setIfInBounds_toArray, List.set_cons_zero, List.set_cons_succ] at HR6
          have own6 := own_set hv6 own5 (by omega)
          obtain ⟨d0, d1, d2, d3, d4, d5, d6⟩ := blk7 HR6
          clear o0 o1 o2 o3 o4 o5 o6
          have hws := Lib.hid own6
          clear hown own0 own1 own2 own3 own4 own5 own6
          go_wp2_with fail
          refine bodyPost_ret (v := .tuple #[.agg #[.int .u64 r.floor, .int .i64 r.counted, .int .i64 r.live, .int .i64 r.used, .int .i64 r.bad, .bool r.saved, .slice a fs.length c], .int .i64 0, .int .i64 0]) (by simp [results, Tryd.results9, go_sem, d0, d1, d2, d3, d4, d5, d6]) rfl ⟨f6, ?_⟩
          rw [HE.out]
          exact ⟨a, c, rfl, g1 + 1, by omega, hws.out⟩
        · have hte : tt.isEmpty = false := by simpa using htt
          have hL := lineL_len tt
          obtain ⟨fuel, rfl⟩ : ∃ k, fuel = k + 1 := ⟨fuel - 1, by have := List.length_pos_iff.2 htt; omega⟩
          have hstep : finsL (fuel + 1) (7 + fs.length) tt = match finR tt with | none => .error (7 + fs.length) | some p => match finsL fuel (7 + fs.length + 1) p.2 with | .error m => .error m | .ok gs => .ok (p.1 :: gs) := by
            rw [finR_eq]
            simp only [finsL]
            rw [if_neg htt]
            cases finL tt <;> rfl
          rw [hstep] at hG
          clear hstep
          have HBAD : Hid (finR tt = none → readL t = .error m) := Lib.hid (fun e => by rw [← HT.out]; unfold tailR; rw [hG, e, hm]; rfl)
          have HGOOD : Hid (∀ p, finR tt = some p → finsL tt0.length 7 tt0 = glue (fs ++ [p.1]) (finsL fuel (7 + (fs ++ [p.1]).length) p.2)) := Lib.hid (fun p e => by
            rw [hG, e]
            simp only [List.length_append, List.length_cons, List.length_nil, Nat.zero_add, ← Nat.add_assoc]
            cases finsL fuel (7 + fs.length + 1) p.2 <;> simp [glue])
          have HM := Lib.hid hm
          have hmb : m ≤ 4294967296 := by omega
          clear hG hm
          obtain ⟨s, rest, hs⟩ : ∃ s rest, Hid (lineL tt = (s, rest)) := ⟨_, _, Lib.hid rfl⟩
          have hls : s.length ≤ tt.length := by have := hL.1; rw [hs.out] at this; exact this
          have hlr : rest.length < tt.length := by have := hL.2.2 htt; rw [hs.out] at this; exact this
          have CL := line_any tt
          rw [hs.out] at CL
          have HCL := Lib.hid CL
          clear CL hL htt
          have HW : Hid (wordsF [] s = wordsR tt) := Lib.hid (by unfold wordsR; rw [hs.out])
          by_cases hn4 : (wordsR tt).length = 4
          · obtain ⟨x, y, z, u, hxy⟩ : ∃ x y z u, wordsR tt = [x, y, z, u] := by
              match h : wordsR tt, hn4 with
              | [x, y, z, u], _ => exact ⟨x, y, z, u, rfl⟩
            rw [hxy] at HW
            have hsz4 : ∀ i v, ([x, y, z, u] : List (List UInt8))[i]? = some v → (bs v).size ≤ 1099511627776 := fun i v hv => by
              have h1 : v.length ≤ s.length := word_le s v i (by rw [HW.out]; exact hv)
              simp only [ByteArray.size, List.size_toArray]; omega
            have hx := hsz4 0 x rfl
            have hy := hsz4 1 y rfl
            have hz := hsz4 2 z rfl
            have hu := hsz4 3 u rfl
            clear hsz4
            obtain ⟨fd, hfd⟩ : ∃ fd, Hid (finOf [x, y, z, u] = fd) := ⟨_, Lib.hid rfl⟩
            have hfw : fd.wf := by rw [← hfd.out]; exact finOf_wf _
            have ek : Hid (kindR x = fd.k) := Lib.hid (by rw [← hfd.out]; rfl)
            have eb : Hid (numL y = fd.b) := Lib.hid (by rw [← hfd.out]; rfl)
            have ep : Hid (numL z = fd.p) := Lib.hid (by rw [← hfd.out]; rfl)
            have eo : Hid (numL u = fd.o) := Lib.hid (by rw [← hfd.out]; rfl)
            have HST : Hid (finR tt = if rowL fd = s then some (fd, rest) else none) := Lib.hid (by unfold finR; rw [if_pos hn4, hs.out, hxy, hfd.out])
            clear hn4 hxy
            go_upto_region 35 with (first
              | (go_at_call 23; refine (HCL.out _ f.ok (by omega)).mono ?_; rintro e wq ⟨rfl, q⟩; replace H := q.heap H; replace HR := q.heap HR; replace hown := own_fr hown q; replace f := f.trans q; clear q)
              | (go_at_call 24; refine (words_any s [x, y, z, u] 4 HW.out rfl _ f.ok (by omega)).mono ?_; rintro e wq ⟨q, A, c9, rfl, hcell⟩; obtain ⟨g9, rfl, e0⟩ := hcell 0 x rfl; obtain ⟨g9', hg9, e1⟩ := hcell 1 y rfl; injection hg9 with hg9; injection hg9 with hg9; subst hg9; obtain ⟨g9', hg9, e2⟩ := hcell 2 z rfl; injection hg9 with hg9; injection hg9 with hg9; subst hg9; obtain ⟨g9', hg9, e3⟩ := hcell 3 u rfl; injection hg9 with hg9; injection hg9 with hg9; subst hg9; clear hcell; replace H := q.heap H; replace HR := q.heap HR; replace hown := own_fr hown q; replace f := f.trans q; clear q))
            go_cut [16] (fun v16 wc => ∃ g16, v16 = .pointer (some ⟨g16, 0, none⟩) ∧ wc.heap[g16]? = some (.cells #[.int .i64 fd.k, .int .i64 fd.b, .int .i64 fd.p, .int .i64 fd.o] 29 (0, 0)) ∧ Fr w wc ∧ wc.heap[g]? = some (.cells #[.int .u64 0, .int .i64 0, .int .i64 0, .int .i64 0, .int .i64 0, .bool false, .slice none 0 0] 25 (0, 0)) ∧
              wc.heap[g1]? = some (.cells #[.int .u64 r.floor, .int .i64 r.counted, .int .i64 r.live, .int .i64 r.used, .int .i64 r.bad, .bool r.saved, .slice a fs.length c] 25 (0, 0)) ∧ wc.ownsRow (g1 + 1) 29 4 (.slice a fs.length c) fs.length (frow fs))
            case first =>
              have n0 := World.new_ne _ _ e0
              have n1 := World.new_ne _ _ e1
              have n2 := World.new_ne _ _ e2
              have n3 := World.new_ne _ _ e3
              go_region_held3 (fun w' => w'.cell? ⟨g9, 0, none⟩ = some (.string ⟨x.toArray⟩) ∧ w'.cell? ⟨g9, 1, none⟩ = some (.string ⟨y.toArray⟩) ∧ w'.cell? ⟨g9, 2, none⟩ = some (.string ⟨z.toArray⟩) ∧ w'.cell? ⟨g9, 3, none⟩ = some (.string ⟨u.toArray⟩)) (first | go_keep | exact ⟨h0, h1, h2, h3⟩)
                (first
                  | (go_at_call 27; refine (refKind_any _ _ ?_ hx).mono ?_; (first | exact f.drew.ok | exact (f.drew.alloc _).ok); rintro e wk ⟨rfl, q⟩; have h0 := q.cell (p := ⟨g9, 0, none⟩) (v := .string ⟨x.toArray⟩) (by simp [*]); have h1 := q.cell (p := ⟨g9, 1, none⟩) (v := .string ⟨y.toArray⟩) (by simp [*]); have h2 := q.cell (p := ⟨g9, 2, none⟩) (v := .string ⟨z.toArray⟩) (by simp [*]); have h3 := q.cell (p := ⟨g9, 3, none⟩) (v := .string ⟨u.toArray⟩) (by simp [*]); try (have hbk : wk.heap[wq.heap.size]? = some (.cells #[.int .i64 0, .int .i64 0, .int .i64 0, .int .i64 0] 29 (0, 0)) := q.heap (blk_alloc (w := wq.drew) _); have zbk := unfrozen hbk; obtain ⟨kk0, kk1, kk2, kk3⟩ := blk4 hbk))
                  | (go_at_call 26; refine (refNumber_any _ _ ?_).mono ?_; (first | exact hy | exact hz | exact hu); rintro e wk ⟨rfl, rfl⟩))
              rotate_left 4
              · have hb0 : Below wq.heap.size wq wk := (((Fr.refl f.ok).drew.alloc _).trans q).below
                have Q := Fr.of f.ok ((((hb0.setCell (p := ⟨wq.heap.size, 0, none⟩) (Nat.le_refl _) (.int .i64 (kindR x))).setCell (p := ⟨wq.heap.size, 1, none⟩) (Nat.le_refl _) (.int .i64 (numL y))).setCell (p := ⟨wq.heap.size, 2, none⟩) (Nat.le_refl _) (.int .i64 (numL z))).setCell (p := ⟨wq.heap.size, 3, none⟩) (Nat.le_refl _) (.int .i64 (numL u)))
                have HB := set_same (set_same (set_same (set_same hbk 0 (.int .i64 (kindR x))) 1 (.int .i64 (numL y))) 2 (.int .i64 (numL z))) 3 (.int .i64 (numL u))
                simp only [List.setIfInBounds_toArray, List.set_cons_zero, List.set_cons_succ] at HB
                clear hb0
                go_wp2_with fail
                go_meet
                exact ⟨wq.heap.size, rfl, by rw [← ek.out, ← eb.out, ← ep.out, ← eo.out]; exact HB, f.trans Q, Q.heap HR, Q.heap H, own_fr hown Q⟩
              all_goals
                have Q : Fr wq (wk.alloc (.cells #[.int .i64 (kindR x), .int .i64 (numL y), .int .i64 (numL z), .int .i64 (numL u)] 29)) := ((Fr.refl f.ok).drew.trans q).alloc _
                have HB : (wk.alloc (.cells #[.int .i64 (kindR x), .int .i64 (numL y), .int .i64 (numL z), .int .i64 (numL u)] 29)).heap[wk.heap.size]? = _ := blk_alloc _
                go_wp2_with fail
                go_meet
                exact ⟨wk.heap.size, rfl, by rw [← ek.out, ← eb.out, ← ep.out, ← eo.out]; exact HB, f.trans Q, Q.heap HR, Q.heap H, own_fr hown Q⟩
            case rest =>
              obtain ⟨g16, rfl, H16, f, HR, H, hown⟩ := hcut
              obtain ⟨e0, e1, e2, e3⟩ := blk4 H16
              by_cases heq : rowL fd = s
              · have hb : (rowL fd == s) = true := by simpa using heq
                have hb' : (rowL fd != s) = false := by simpa using heq
                have HX : Hid (finsL tt0.length 7 tt0 = glue (fs ++ [fd]) (finsL fuel (7 + (fs ++ [fd]).length) rest)) := Lib.hid (HGOOD.out (fd, rest) (by rw [HST.out, if_pos heq]))
                clear heq
                obtain ⟨i0, hi0, hzi0, hzi1, hzi2⟩ := info_parts infoF
                have hone8 : ∀ v ∈ fcells fd, v.oneCell' = true := by simp [fcells, Value.oneCell']
                have hcap8 : fs.length + 1 ≤ maxLen := by unfold maxLen; omega
                replace hone8 := Lib.hid hone8
                replace hcap8 := Lib.hid hcap8
                replace hi0 := Lib.hid hi0
                replace hzi0 := Lib.hid hzi0
                replace hzi1 := Lib.hid hzi1
                replace hzi2 := Lib.hid hzi2
                go_wp2_with (first
                  | (go_at_call 22; refine (row_any fd _ f.ok hfw).mono ?_; rintro e wx ⟨rfl, q⟩; replace H16 := q.heap H16; obtain ⟨e0, e1, e2, e3⟩ := blk4 H16; replace HR := q.heap HR; replace H := q.heap H; replace hown := own_fr hown q; replace f := f.trans q; have k6 := (blk7 H).2.2.2.2.2.2; clear q; obtain ⟨w8, g8, hg8, hw8, f8, hz8, H8⟩ := boxedN f.ok #[.int .i64 fd.k, .int .i64 fd.b, .int .i64 fd.p, .int .i64 fd.o] 29; replace H := f8.heap H; replace HR := f8.heap HR; replace hown := own_fr hown f8; replace f := f.trans f8; have gl8 : g1 < w8.heap.size := (Array.getElem?_eq_some_iff.1 H).1; clear f8 H16)
                  | (at_builtin; refine wpList_append_own _ rfl (.tmp 136) (.tmp 138) 23 rfl (g1 + 1) 29 i0 _ 4 32 Tryd.underlying23 hi0.out hzi0.out hzi1.out hzi2.out rfl (by decide) (.slice a fs.length c) fs.length (frow fs) rfl hown ⟨g8, 0, none⟩ 1 1 (fcells fd) rfl rfl (fun j v hj => by rw [Lib.add_plain, Nat.zero_add]; exact blk_cell H8 (by simpa [fcells] using hj)) hone8.out hcap8.out (by omega) (by omega) ?_; intro v9 w9 hown9 hgr9 hnil9; obtain ⟨gx, cap9, rfl, hb9, hl9, hc9⟩ := own_some hown9 (fun e => (by have := (hnil9.1 e).2; cases this)); clear hnil9; have hb8 := own_base' hown; have b9 : Below (g1 + 1) w8 w9 := (Below.refl (g1 + 1) w8).grown hgr9 (by omega) hb8; have hne : ∀ k, k ≤ g1 → some k ≠ (Value.slice a fs.length c).ownBlock := (fun k hk e => (by have := hb8 k e.symm; omega)); replace H := grown_blk hgr9 H (hne g1 (Nat.le_refl _)); replace HR := grown_blk hgr9 HR (hne g (Nat.le_of_lt l1)); replace f : Fr w w9 := ⟨f.below.trans (b9.mono (by omega)), f.ok.set (by omega) b9⟩; clear hown hgr9 b9 hb8 hne H8; obtain ⟨ws9, hws9, H5, f5, o5⟩ := setR f (Nat.le_trans hB (Nat.le_of_lt l1)) hsz H 6 (.slice (some ⟨gx, 0, none⟩) (fs.length + 1) cap9); have z9 := unfrozen H 6; have k9c := (blk7 H).2.2.2.2.2.2; replace HR := o5 _ _ HR (by omega); simp only [List.setIfInBounds_toArray, List.set_cons_zero, List.set_cons_succ] at H5; have hown5 := Lib.hid (own_set hws9 hown9 (by omega)); clear o5 H hown9))
                have e3 : (fs ++ [fd]).length = fs.length + 1 := by simp
                have e5 : frow (fs ++ [fd]) = frow fs ++ fcells fd := by simp [frow]
                have REL : Hid (∃ (m' : Nat) (tt : List UInt8) (fs : List Fnd) (a : Option Addr) (c : Nat), Hid (rest.length = tt.length ∧ m' = 7 + fs.length) ∧ tt.length + fs.length ≤ tt0.length ∧ Value.string ⟨rest.toArray⟩ = .string ⟨tt.toArray⟩ ∧ Value.int .i64 ((m : Int) + 1) = .int .i64 m' ∧ Fr w ws9 ∧ ws9.heap[g]? = some (.cells #[.int .u64 0, .int .i64 0, .int .i64 0, .int .i64 0, .int .i64 0, .bool false, .slice none 0 0] 25 (0, 0)) ∧
                    ws9.heap[g1]? = some (.cells #[.int .u64 r.floor, .int .i64 r.counted, .int .i64 r.live, .int .i64 r.used, .int .i64 r.bad, .bool r.saved, .slice a fs.length c] 25 (0, 0)) ∧ ws9.ownsRow (g1 + 1) 29 4 (.slice a fs.length c) fs.length (frow fs) ∧ Hid (∃ fuel, tt.length ≤ fuel ∧ finsL tt0.length 7 tt0 = glue fs (finsL fuel (7 + fs.length) tt))) :=
                  Lib.hid ⟨m + 1, rest, fs ++ [fd], some ⟨gx, 0, none⟩, cap9, Lib.hid ⟨rfl, by rw [e3, HM.out]; omega⟩, by rw [e3]; omega, rfl, by go_num, f5, HR, by rw [e3]; exact H5, by rw [e3, e5]; exact hown5.out, Lib.hid ⟨fuel, by omega, HX.out⟩⟩
                clear e3 e5 hown5 H5 HR HX
                go_wp2_with fail
                go_roundg rest.length
                case measure => omega
                case rel => exact REL.out
              · have hb : (rowL fd == s) = false := by simpa using heq
                have hb' : (rowL fd != s) = true := by simpa using heq
                have HE : Hid (readL t = .error m) := Lib.hid (HBAD.out (by rw [HST.out, if_neg heq]))
                clear heq HBAD HGOOD
                go_wp2_with (go_at_call 22; refine (row_any fd _ f.ok hfw).mono ?_; rintro e wx ⟨rfl, q⟩; replace H := q.heap H; replace HR := q.heap HR; replace f := f.trans q; clear q; obtain ⟨b0, b1, b2, b3, b4, b5, b6⟩ := blk7 HR; have z := unfrozen HR; have i0 := set_idem HR 0 (.int .u64 0) rfl; have i1 := set_idem HR 1 (.int .i64 0) rfl; have i2 := set_idem HR 2 (.int .i64 0) rfl; have i3 := set_idem HR 3 (.int .i64 0) rfl; have i4 := set_idem HR 4 (.int .i64 0) rfl; have i5 := set_idem HR 5 (.bool false) rfl; have i6 := set_idem HR 6 (.slice none 0 0) rfl)
                refine bodyPost_ret (v := .tuple #[repV zeroRep none 0, .int .i64 200, .int .i64 (m : Int)]) (by simp [results, Tryd.results9, go_sem, b0, b1, b2, b3, b4, b5, b6, repV, zeroRep]) rfl ⟨f, ?_⟩
                rw [HE.out]; exact rfl
          · have HE : Hid (readL t = .error m) := Lib.hid (HBAD.out (by unfold finR; rw [if_neg hn4]))
            obtain ⟨n, hn⟩ : ∃ n, (wordsR tt).length = n := ⟨_, rfl⟩
            rw [hn] at hn4
            have hb : ((n : Int) == 4) = false := by rw [beq_eq_false_iff_ne]; omega
            have hb' : ((n : Int) != 4) = true := by simp; omega
            have HN := Lib.hid hn
            clear hn hn4 HBAD HGOOD
            go_wp2_with (first
              | (go_at_call 23; refine (HCL.out _ f.ok (by omega)).mono ?_; rintro e wq ⟨rfl, q⟩; replace H := q.heap H; replace HR := q.heap HR; replace f := f.trans q; clear q)
              | (go_at_call 24; refine (words_any s (wordsR tt) n HW.out HN.out _ f.ok (by omega)).mono ?_; rintro e wq ⟨q, A, c9, rfl, hcell⟩; clear hcell; replace H := q.heap H; replace HR := q.heap HR; replace f := f.trans q; clear q; obtain ⟨b0, b1, b2, b3, b4, b5, b6⟩ := blk7 HR; have z := unfrozen HR; have i0 := set_idem HR 0 (.int .u64 0) rfl; have i1 := set_idem HR 1 (.int .i64 0) rfl; have i2 := set_idem HR 2 (.int .i64 0) rfl; have i3 := set_idem HR 3 (.int .i64 0) rfl; have i4 := set_idem HR 4 (.int .i64 0) rfl; have i5 := set_idem HR 5 (.bool false) rfl; have i6 := set_idem HR 6 (.slice none 0 0) rfl))
            refine bodyPost_ret (v := .tuple #[repV zeroRep none 0, .int .i64 200, .int .i64 (m : Int)]) (by simp [results, Tryd.results9, go_sem, b0, b1, b2, b3, b4, b5, b6, repV, zeroRep]) rfl ⟨f, ?_⟩
            rw [HE.out]; exact rfl
end Go.Proofs.YtioapjnaopnhaaaDoor
