/- A region that draws its order: some operations only look at the world and may come up late (their indices are listed); the others come up in one order alone, and what the first ones look at stands until the last of them. No conditions. -/
import Derived.Test.YtefkklgelmbaiaaDoorZ2
import Derived.Deep.QuietTactic
import Derived.BigQuiet
set_option linter.unusedSimpArgs false
set_option linter.unusedVariables false
namespace Go.Proofs.YtefkklgelmbaiaaDoor
open Go.RowKit Go.Proofs

theorem Fr.drewN {a w : World} (h : Fr a w) (n : Nat) : Fr a (w.drewN n) := h.trans (Fr.of h.ok ⟨rfl, rfl, rfl, Nat.le_refl _, fun _ _ => rfl⟩)
set_option maxRecDepth 100000 in
theorem place_any (b p : Int) (w : World) (hw : Ok w) : Calls Tryd.prog 46 #[.agg #[.int .i64 b, .int .i64 p]] w fun e w' => e = .returned (.bool (placeB b p)) ∧ Fr w w' := by
  obtain ⟨w1, g, hg, hw1, f, hz1, H⟩ := boxedN hw #[.int .i64 b, .int .i64 p] 50
  obtain ⟨c0, c1⟩ := blk2 H
  have hF : ¬ (0 ≤ b ∧ b < 4096 ∧ 0 ≤ p ∧ p < 256) → Hid (placeB b p = false) := fun h => Lib.hid (decide_eq_false h)
  by_cases h1 : 0 ≤ b
  case neg =>
    have HR := hF (by omega)
    clear hF
    go_enter Tryd.func46, Tryd.ntmps46
    go_wp2
    go_ret
    exact ⟨by rw [HR.out]; rfl, f⟩
  by_cases h2 : b < 4096
  case neg =>
    have HR := hF (by omega)
    clear hF
    go_enter Tryd.func46, Tryd.ntmps46
    go_wp2
    go_ret
    exact ⟨by rw [HR.out]; rfl, f⟩
  by_cases h3 : 0 ≤ p
  case neg =>
    have HR := hF (by omega)
    clear hF
    go_enter Tryd.func46, Tryd.ntmps46
    go_wp2
    go_ret
    exact ⟨by rw [HR.out]; rfl, f⟩
  by_cases h4 : p < 256
  case neg =>
    have HR := hF (by omega)
    clear hF
    go_enter Tryd.func46, Tryd.ntmps46
    go_wp2
    go_ret
    exact ⟨by rw [HR.out]; rfl, f⟩
  have HR : Hid (placeB b p = true) := Lib.hid (decide_eq_true ⟨h1, h2, h3, h4⟩)
  clear hF
  go_enter Tryd.func46, Tryd.ntmps46
  go_wp2
  go_ret
  exact ⟨by rw [HR.out]; rfl, f⟩

theorem objB_false (o : Obj') (h : o.id < 2 ∨ 1048575 < o.id ∨ 65536 < (o.cs.length : Int) ∨ (o.head = true ∧ (checkL o.nd ≠ 0 ∨ o.nd.shadow ≠ 0 ∨ placeB o.pb o.pp = false)) ∨ (o.head = false ∧ (o.nd ≠ Nod.zero ∨ ¬ (o.pb = 0 ∧ o.pp = 0)))) : objB o = false := by
  unfold objB
  rw [Bool.eq_false_iff]
  simp only [ne_eq, Bool.and_eq_true, decide_eq_true_eq]
  rintro ⟨⟨⟨h1, h2, h3⟩, _⟩, h5⟩
  rcases h with h | h | h | ⟨hd, h⟩ | ⟨hd, h⟩
  · omega
  · omega
  · omega
  · rw [hd, if_pos rfl] at h5
    simp only [Bool.and_eq_true, decide_eq_true_eq] at h5
    rcases h with h | h | h
    · exact h h5.1.1
    · exact h h5.1.2
    · rw [h] at h5; exact absurd h5.2 (by simp)
  · rw [hd] at h5
    simp only [Bool.false_eq_true, if_false, decide_eq_true_eq] at h5
    rcases h with h | h
    · exact h h5.1
    · exact h h5.2
theorem objB_chunks (o : Obj') (h1 : ¬ o.id < 2) (h2 : ¬ 1048575 < o.id) (h3 : ¬ 65536 < (o.cs.length : Int)) (h4 : o.head = true → checkL o.nd = 0 ∧ o.nd.shadow = 0 ∧ placeB o.pb o.pp = true) (h5 : o.head = false → o.nd = Nod.zero ∧ o.pb = 0 ∧ o.pp = 0) : objB o = chunksB (-1) (o.cs.drop 0) := by
  unfold objB
  rw [decide_eq_true (show 2 ≤ o.id ∧ o.id ≤ 1048575 ∧ o.cs.length ≤ 65536 by omega), Bool.true_and]
  have h6 : (if o.head then decide (checkL o.nd = 0 ∧ o.nd.shadow = 0) && placeB o.pb o.pp else decide (o.nd = Nod.zero ∧ o.pb = 0 ∧ o.pp = 0)) = true := by
    cases hd : o.head with
    | false => simp only [Bool.false_eq_true, if_false, decide_eq_true_eq]; exact h5 hd
    | true =>
      obtain ⟨a, b, c⟩ := h4 hd
      rw [if_pos rfl, c, Bool.and_true]
      exact decide_eq_true ⟨a, b⟩
  rw [h6, Bool.and_true]
  rfl
theorem chunks_step {cs : List Chk} {last : Int} {i : Nat} (h : i < cs.length) : chunksB last (cs.drop i) = (decide (last < cs[i].c ∧ cs[i].c ≤ 1048575) && placeB cs[i].b cs[i].p && decide (0 ≤ cs[i].n ∧ cs[i].n ≤ 2048) && chunksB cs[i].c (cs.drop (i + 1))) := by
  rw [List.drop_eq_getElem_cons h]
  rfl

set_option maxHeartbeats 12800000 in
set_option maxRecDepth 100000 in
theorem robject_any (o : Obj') (A : Option Addr) (c : Nat) (w : World) (hw : Ok w) (hC : CRow w A o.cs) (hcl : o.cs.length ≤ c) (hn : o.cs.length ≤ 1099511627776) (hnd : o.nd.wf) :
    Calls Tryd.prog 31 #[.agg #[.int .i64 o.id, .bool o.head, .int .i64 o.nd.ty, .int .i64 o.nd.par, .string o.nd.name, .int .i64 o.nd.size, .int .i64 o.nd.mode, .int .u64 o.nd.stamp, .int .i64 o.nd.shadow, .string o.nd.tgt, .int .i64 o.pb, .int .i64 o.pp, .slice A o.cs.length c]] w fun e w' => e = .returned (.bool (objB o)) ∧ Fr w w' := by
  have hF := objB_false o
  have hT := objB_chunks o
  obtain ⟨id, head, nd, pb, pp, cs⟩ := o
  dsimp only at hC hcl hn hnd hF hT ⊢
  obtain ⟨w1, g, hg, hw1, f, hz1, H⟩ := boxedN hw #[.int .i64 id, .bool head, .int .i64 nd.ty, .int .i64 nd.par, .string nd.name, .int .i64 nd.size, .int .i64 nd.mode, .int .u64 nd.stamp, .int .i64 nd.shadow, .string nd.tgt, .int .i64 pb, .int .i64 pp, .slice A cs.length c] 53
  obtain ⟨c0, c1, c2, c3, c4, c5, c6, c7, c8, c9, c10, c11, c12⟩ := blk13 H
  by_cases h1 : id < 2
  · have HR := Lib.hid (hF (.inl h1))
    clear hF hT
    go_enter Tryd.func31, Tryd.ntmps31
    go_wp2_with (first
      | (go_at_call 32; refine (check08_any nd hnd _ f.ok).mono ?_; rw [HK.out]; rintro e wx ⟨rfl, q⟩; replace H := q.heap H; replace f := f.trans q; clear q; obtain ⟨c0, c1, c2, c3, c4, c5, c6, c7, c8, c9, c10, c11, c12⟩ := blk13 H)
      | (go_at_call 46; refine (place_any pb pp _ f.ok).mono ?_; rw [HG.out]; rintro e wx ⟨rfl, q⟩; replace H := q.heap H; replace f := f.trans q; clear q; obtain ⟨c0, c1, c2, c3, c4, c5, c6, c7, c8, c9, c10, c11, c12⟩ := blk13 H))
    go_ret
    exact ⟨by rw [HR.out]; rfl, f⟩
  by_cases h2 : 1048575 < id
  · have HR := Lib.hid (hF (.inr (.inl h2)))
    clear hF hT
    go_enter Tryd.func31, Tryd.ntmps31
    go_wp2_with (first
      | (go_at_call 32; refine (check08_any nd hnd _ f.ok).mono ?_; rw [HK.out]; rintro e wx ⟨rfl, q⟩; replace H := q.heap H; replace f := f.trans q; clear q; obtain ⟨c0, c1, c2, c3, c4, c5, c6, c7, c8, c9, c10, c11, c12⟩ := blk13 H)
      | (go_at_call 46; refine (place_any pb pp _ f.ok).mono ?_; rw [HG.out]; rintro e wx ⟨rfl, q⟩; replace H := q.heap H; replace f := f.trans q; clear q; obtain ⟨c0, c1, c2, c3, c4, c5, c6, c7, c8, c9, c10, c11, c12⟩ := blk13 H))
    go_ret
    exact ⟨by rw [HR.out]; rfl, f⟩
  by_cases h3 : (65536 : Int) < (cs.length : Int)
  · have HR := Lib.hid (hF (.inr (.inr (.inl h3))))
    clear hF hT
    go_enter Tryd.func31, Tryd.ntmps31
    go_wp2_with (first
      | (go_at_call 32; refine (check08_any nd hnd _ f.ok).mono ?_; rw [HK.out]; rintro e wx ⟨rfl, q⟩; replace H := q.heap H; replace f := f.trans q; clear q; obtain ⟨c0, c1, c2, c3, c4, c5, c6, c7, c8, c9, c10, c11, c12⟩ := blk13 H)
      | (go_at_call 46; refine (place_any pb pp _ f.ok).mono ?_; rw [HG.out]; rintro e wx ⟨rfl, q⟩; replace H := q.heap H; replace f := f.trans q; clear q; obtain ⟨c0, c1, c2, c3, c4, c5, c6, c7, c8, c9, c10, c11, c12⟩ := blk13 H))
    go_ret
    exact ⟨by rw [HR.out]; rfl, f⟩
  cases head
  · have hE : ∀ W, (Op.equalIn 10000 48 (nodV nd) (nodV Nod.zero)).run Tryd.prog W = .ok (decide (nd = Nod.zero)) W := fun W => eqNode 9998 W nd Nod.zero
    have hE2 : ∀ W, (Op.equalIn 10000 50 (.agg #[.int .i64 pb, .int .i64 pp]) (.agg #[.int .i64 0, .int .i64 0])).run Tryd.prog W = .ok (pb == 0 && (pp == 0 && true)) W := fun W => eqPlace 9998 W pb 0 pp 0
    unfold nodV Nod.zero at hE
    cases hz : decide (nd = (⟨0, 0, ⟨#[]⟩, 0, 0, 0, 0, ⟨#[]⟩⟩ : Nod)) with
    | false =>
      have hz' : ¬ nd = Nod.zero := of_decide_eq_false hz
      have HR := Lib.hid (hF (.inr (.inr (.inr (.inr ⟨rfl, .inl hz'⟩)))))
      rw [hz] at hE
      clear hz hz' hF hT
      go_enter Tryd.func31, Tryd.ntmps31
      go_wp2_with (first
        | (go_at_call 32; refine (check08_any nd hnd _ f.ok).mono ?_; rw [HK.out]; rintro e wx ⟨rfl, q⟩; replace H := q.heap H; replace f := f.trans q; clear q; obtain ⟨c0, c1, c2, c3, c4, c5, c6, c7, c8, c9, c10, c11, c12⟩ := blk13 H)
        | (go_at_call 46; refine (place_any pb pp _ f.ok).mono ?_; rw [HG.out]; rintro e wx ⟨rfl, q⟩; replace H := q.heap H; replace f := f.trans q; clear q; obtain ⟨c0, c1, c2, c3, c4, c5, c6, c7, c8, c9, c10, c11, c12⟩ := blk13 H))
      go_ret
      exact ⟨by rw [HR.out]; rfl, f⟩
    | true =>
      have hz' : nd = Nod.zero := of_decide_eq_true hz
      rw [hz] at hE
      cases hp : (pb == 0 && (pp == 0 && true)) with
      | false =>
        have HR := Lib.hid (hF (.inr (.inr (.inr (.inr ⟨rfl, .inr (fun h => by rw [h.1, h.2] at hp; cases hp)⟩)))))
        rw [hp] at hE2
        clear hz hz' hF hT hp
        go_enter Tryd.func31, Tryd.ntmps31
        go_wp2_with (first
          | (go_at_call 32; refine (check08_any nd hnd _ f.ok).mono ?_; rw [HK.out]; rintro e wx ⟨rfl, q⟩; replace H := q.heap H; replace f := f.trans q; clear q; obtain ⟨c0, c1, c2, c3, c4, c5, c6, c7, c8, c9, c10, c11, c12⟩ := blk13 H)
          | (go_at_call 46; refine (place_any pb pp _ f.ok).mono ?_; rw [HG.out]; rintro e wx ⟨rfl, q⟩; replace H := q.heap H; replace f := f.trans q; clear q; obtain ⟨c0, c1, c2, c3, c4, c5, c6, c7, c8, c9, c10, c11, c12⟩ := blk13 H))
        go_ret
        exact ⟨by rw [HR.out]; rfl, f⟩
      | true =>
        have hp' : pb = 0 ∧ pp = 0 := by simpa using hp
        have HR := Lib.hid (hT h1 h2 h3 (fun h => by cases h) (fun _ => ⟨hz', hp'.1, hp'.2⟩))
        rw [hp] at hE2
        clear hz hz' hF hT hp hp'
        go_enter Tryd.func31, Tryd.ntmps31
        have HG : True := trivial
        go_wp2
        clear HG
        go_loopg [3] cs.length (fun k v3 wc => ∃ (i : Nat) (lst : Int), v3 = .int .i64 (i : Int) ∧ k + i = cs.length ∧ Hid (-1 ≤ lst ∧ (i = 0 → lst = -1) ∧ ∀ j, i = j + 1 → ∀ h : j < cs.length, cs[j].c = lst) ∧ Hid (objB ⟨id, false, nd, pb, pp, cs⟩ = chunksB lst (cs.drop i)) ∧ Hid (Fr w wc) ∧ Hid (wc.heap[g]? = some (.cells #[.int .i64 id, .bool false, .int .i64 nd.ty, .int .i64 nd.par, .string nd.name, .int .i64 nd.size, .int .i64 nd.mode, .int .u64 nd.stamp, .int .i64 nd.shadow, .string nd.tgt, .int .i64 pb, .int .i64 pp, .slice A cs.length c] 53 (0, 0))))
        case atStart => exact ⟨0, -1, rfl, by omega, Lib.hid ⟨by omega, fun _ => rfl, fun j h => by omega⟩, HR, Lib.hid f, Lib.hid H⟩
        case round =>
          clear HR f H c0 c1 c2 c3 c4 c5 c6 c7 c8 c9 c10 c11 c12
          obtain ⟨i, lst, rfl, hk, HLS, HR, HF, HH⟩ := hrel
          have f := HF.out
          have H := HH.out
          clear HF HH
          obtain ⟨c0, c1, c2, c3, c4, c5, c6, c7, c8, c9, c10, c11, c12⟩ := blk13 H
          cases gk with
          | zero =>
            have d4 : decide ((i : Int) < (cs.length : Int)) = false := decide_eq_false (by omega)
            obtain rfl : i = cs.length := by omega
            have HR2 : Hid (objB ⟨id, false, nd, pb, pp, cs⟩ = true) := Lib.hid (by rw [HR.out, List.drop_length]; rfl)
            clear HR
            go_wp2
            go_ret
            exact ⟨by rw [HR2.out]; rfl, f⟩
          | succ k =>
            have hi : i < cs.length := by omega
            have d4 : decide ((i : Int) < (cs.length : Int)) = true := decide_eq_true (by omega)
            obtain ⟨gC, oC, hA, y0, y1, y2, y3⟩ := (hC.fr f).get hi
            have HPV : Hid (∀ j, i = j + 1 → wr.cell? ⟨gC, oC + j * 4, none⟩ = some (.int .i64 lst)) := Lib.hid (fun j hj => by
              have hjl : j < cs.length := by omega
              obtain ⟨g', o', hA', z0, _⟩ := (hC.fr f).get hjl
              rw [hA] at hA'
              injection hA' with hA'
              injection hA' with e1 e2
              subst e1; subst e2
              rw [HLS.out.2.2 j hj hjl] at z0
              exact z0)
            replace HR := Lib.hid (HR.out.trans (chunks_step hi))
            have HSV := Lib.hid (fun (j : Nat) (hj : i + 1 = j + 1) (h : j < cs.length) => (show cs[j].c = cs[i].c by have e : j = i := (by omega); subst e; rfl))
            obtain ⟨ch, hch⟩ : ∃ ch, cs[i] = ch := ⟨_, rfl⟩
            rw [hch] at y0 y1 y2 y3 HR HSV
            clear hch
            obtain ⟨cc, cb, cp, cn⟩ := ch
            dsimp only at y0 y1 y2 y3 HR HSV
            subst hA
            have hlst := HLS.out.1
            obtain ⟨w8, g8, hg8, hw8, f8, hz8, H8⟩ := boxedN f.ok #[.int .i64 cc, .int .i64 cb, .int .i64 cp, .int .i64 cn] 59
            replace HPV := Lib.hid (fun j hj => f8.cell (HPV.out j hj))
            replace H := f8.heap H
            replace f := f.trans f8
            clear f8
            obtain ⟨e0, e1, e2, e3⟩ := blk4 H8
            by_cases b1 : cc < 0
            · have HR2 := Lib.hid (HR.out.trans (by rw [decide_eq_false (show ¬ (lst < cc ∧ cc ≤ 1048575) by omega)]; rfl : _ = false))
              have HG2 : Hid (placeB cb cp = placeB cb cp) := Lib.hid rfl
              clear HR
              go_wp2_with (go_at_call 46; refine (place_any cb cp _ f.ok).mono ?_; rw [HG2.out]; rintro e wx ⟨rfl, q⟩; replace f := f.trans q; replace H8 := q.heap H8; clear q; obtain ⟨e0, e1, e2, e3⟩ := blk4 H8)
              go_ret
              exact ⟨by rw [HR2.out]; rfl, f⟩
            by_cases b2 : 1048575 < cc
            · have HR2 := Lib.hid (HR.out.trans (by rw [decide_eq_false (show ¬ (lst < cc ∧ cc ≤ 1048575) by omega)]; rfl : _ = false))
              have HG2 : Hid (placeB cb cp = placeB cb cp) := Lib.hid rfl
              clear HR
              go_wp2_with (go_at_call 46; refine (place_any cb cp _ f.ok).mono ?_; rw [HG2.out]; rintro e wx ⟨rfl, q⟩; replace f := f.trans q; replace H8 := q.heap H8; clear q; obtain ⟨e0, e1, e2, e3⟩ := blk4 H8)
              go_ret
              exact ⟨by rw [HR2.out]; rfl, f⟩
            cases hpl2 : placeB cb cp with
            | false =>
              have HR2 := Lib.hid (HR.out.trans (by rw [hpl2, Bool.and_false, Bool.false_and, Bool.false_and] : _ = false))
              have HG2 := Lib.hid hpl2
              clear hpl2
              clear HR
              go_wp2_with (go_at_call 46; refine (place_any cb cp _ f.ok).mono ?_; rw [HG2.out]; rintro e wx ⟨rfl, q⟩; replace f := f.trans q; replace H8 := q.heap H8; clear q; obtain ⟨e0, e1, e2, e3⟩ := blk4 H8)
              go_ret
              exact ⟨by rw [HR2.out]; rfl, f⟩
            | true =>
              have HG2 := Lib.hid hpl2
              by_cases b3 : cn < 0
              · have HR2 := Lib.hid (HR.out.trans (by rw [decide_eq_false (show ¬ (0 ≤ cn ∧ cn ≤ 2048) by omega), Bool.and_false, Bool.false_and] : _ = false))
                clear hpl2
                clear HR
                go_wp2_with (go_at_call 46; refine (place_any cb cp _ f.ok).mono ?_; rw [HG2.out]; rintro e wx ⟨rfl, q⟩; replace f := f.trans q; replace H8 := q.heap H8; clear q; obtain ⟨e0, e1, e2, e3⟩ := blk4 H8)
                go_ret
                exact ⟨by rw [HR2.out]; rfl, f⟩
              by_cases b4 : 2048 < cn
              · have HR2 := Lib.hid (HR.out.trans (by rw [decide_eq_false (show ¬ (0 ≤ cn ∧ cn ≤ 2048) by omega), Bool.and_false, Bool.false_and] : _ = false))
                clear hpl2
                clear HR
                go_wp2_with (go_at_call 46; refine (place_any cb cp _ f.ok).mono ?_; rw [HG2.out]; rintro e wx ⟨rfl, q⟩; replace f := f.trans q; replace H8 := q.heap H8; clear q; obtain ⟨e0, e1, e2, e3⟩ := blk4 H8)
                go_ret
                exact ⟨by rw [HR2.out]; rfl, f⟩
              replace HR := Lib.hid (HR.out.trans (by rw [hpl2, decide_eq_true (show 0 ≤ cn ∧ cn ≤ 2048 by omega), Bool.and_true, Bool.and_true] : _ = (decide (lst < cc ∧ cc ≤ 1048575) && chunksB cc (cs.drop (i + 1)))))
              clear hpl2
              go_wp2_with (go_at_call 46; refine (place_any cb cp _ f.ok).mono ?_; rw [HG2.out]; rintro e wx ⟨rfl, q⟩; replace f := f.trans q; replace H := q.heap H; replace HPV := Lib.hid (fun j hj => q.cell (HPV.out j hj)); replace H8 := q.heap H8; clear q; obtain ⟨e0, e1, e2, e3⟩ := blk4 H8; obtain ⟨c0, c1, c2, c3, c4, c5, c6, c7, c8, c9, c10, c11, c12⟩ := blk13 H)
              rcases Nat.eq_zero_or_pos i with h0 | h0
              · have hl1 := HLS.out.2.1 h0
                subst h0
                have HR2 : Hid (objB ⟨id, false, nd, pb, pp, cs⟩ = chunksB cc (cs.drop (0 + 1))) := Lib.hid (HR.out.trans (by rw [decide_eq_true (show lst < cc ∧ cc ≤ 1048575 by omega), Bool.true_and]))
                have HL1 := Lib.hid hl1
                clear hl1 HR
                have d6 : decide ((0 : Int) < ((0 : Nat) : Int)) = false := by decide
                clear hw8 hg8 y0 y1 y2 y3
                go_quiet (fail)
                go_wp2
                go_roundg k
                case measure => omega
                case rel => exact ⟨1, cc, by simp, by omega, Lib.hid ⟨by omega, fun h => by omega, HSV.out⟩, HR2, Lib.hid (f.drewN _), Lib.hid H⟩
              · obtain ⟨j, rfl⟩ : ∃ j, i = j + 1 := ⟨i - 1, by omega⟩
                have p0 := HPV.out j rfl
                have wi : IntKind.i64.wrap (((j + 1 : Nat) : Int) - 1) = (j : Int) := by rw [IntWalk.i64_in _ ⟨by omega, by omega⟩]; omega
                have j0 : (0 : Int) ≤ (j : Int) := by omega
                have j1 : (j : Int) < (cs.length : Int) := by omega
                have d6 : decide ((0 : Int) < ((j + 1 : Nat) : Int)) = true := decide_eq_true (by omega)
                clear hw8 hg8 y0 y1 y2 y3
                by_cases hge : cc ≤ lst
                · have HR2 := Lib.hid (HR.out.trans (by rw [decide_eq_false (show ¬ (lst < cc ∧ cc ≤ 1048575) by omega)]; rfl : _ = false))
                  clear HR
                  go_quiet (fail)
                  go_wp2
                  go_ret
                  exact ⟨by rw [HR2.out]; rfl, f.drewN _⟩
                · have HR2 : Hid (objB ⟨id, false, nd, pb, pp, cs⟩ = chunksB cc (cs.drop (j + 1 + 1))) := Lib.hid (HR.out.trans (by rw [decide_eq_true (show lst < cc ∧ cc ≤ 1048575 by omega), Bool.true_and]))
                  clear HR
                  go_quiet (fail)
                  go_wp2
                  go_roundg k
                  case measure => omega
                  case rel => exact ⟨j + 1 + 1, cc, by simp, by omega, Lib.hid ⟨by omega, fun h => by omega, HSV.out⟩, HR2, Lib.hid (f.drewN _), Lib.hid H⟩
  · by_cases hk : checkL nd = 0
    case neg =>
      have HR := Lib.hid (hF (.inr (.inr (.inr (.inl ⟨rfl, .inl hk⟩)))))
      obtain ⟨k, hkk⟩ : ∃ k, checkL nd = k := ⟨_, rfl⟩
      have HK := Lib.hid hkk
      have hb : (k != 0) = true := by rw [← hkk]; simpa using hk
      clear hF hT hk hkk
      go_enter Tryd.func31, Tryd.ntmps31
      go_wp2_with (first
        | (go_at_call 32; refine (check08_any nd hnd _ f.ok).mono ?_; rw [HK.out]; rintro e wx ⟨rfl, q⟩; replace H := q.heap H; replace f := f.trans q; clear q; obtain ⟨c0, c1, c2, c3, c4, c5, c6, c7, c8, c9, c10, c11, c12⟩ := blk13 H)
        | (go_at_call 46; refine (place_any pb pp _ f.ok).mono ?_; rw [HG.out]; rintro e wx ⟨rfl, q⟩; replace H := q.heap H; replace f := f.trans q; clear q; obtain ⟨c0, c1, c2, c3, c4, c5, c6, c7, c8, c9, c10, c11, c12⟩ := blk13 H))
      go_ret
      exact ⟨by rw [HR.out]; rfl, f⟩
    have HK := Lib.hid hk
    by_cases hs : nd.shadow = 0
    case neg =>
      have HR := Lib.hid (hF (.inr (.inr (.inr (.inl ⟨rfl, .inr (.inl hs)⟩)))))
      have hb : (nd.shadow != 0) = true := by simpa using hs
      clear hF hT hk
      go_enter Tryd.func31, Tryd.ntmps31
      go_wp2_with (first
        | (go_at_call 32; refine (check08_any nd hnd _ f.ok).mono ?_; rw [HK.out]; rintro e wx ⟨rfl, q⟩; replace H := q.heap H; replace f := f.trans q; clear q; obtain ⟨c0, c1, c2, c3, c4, c5, c6, c7, c8, c9, c10, c11, c12⟩ := blk13 H)
        | (go_at_call 46; refine (place_any pb pp _ f.ok).mono ?_; rw [HG.out]; rintro e wx ⟨rfl, q⟩; replace H := q.heap H; replace f := f.trans q; clear q; obtain ⟨c0, c1, c2, c3, c4, c5, c6, c7, c8, c9, c10, c11, c12⟩ := blk13 H))
      go_ret
      exact ⟨by rw [HR.out]; rfl, f⟩
    have hb : (nd.shadow != 0) = false := by simpa using hs
    cases hpl : placeB pb pp with
    | false =>
      have HR := Lib.hid (hF (.inr (.inr (.inr (.inl ⟨rfl, .inr (.inr hpl)⟩)))))
      have HG := Lib.hid hpl
      clear hF hT hk hs hpl
      go_enter Tryd.func31, Tryd.ntmps31
      go_wp2_with (first
        | (go_at_call 32; refine (check08_any nd hnd _ f.ok).mono ?_; rw [HK.out]; rintro e wx ⟨rfl, q⟩; replace H := q.heap H; replace f := f.trans q; clear q; obtain ⟨c0, c1, c2, c3, c4, c5, c6, c7, c8, c9, c10, c11, c12⟩ := blk13 H)
        | (go_at_call 46; refine (place_any pb pp _ f.ok).mono ?_; rw [HG.out]; rintro e wx ⟨rfl, q⟩; replace H := q.heap H; replace f := f.trans q; clear q; obtain ⟨c0, c1, c2, c3, c4, c5, c6, c7, c8, c9, c10, c11, c12⟩ := blk13 H))
      go_ret
      exact ⟨by rw [HR.out]; rfl, f⟩
    | true =>
      have HR := Lib.hid (hT h1 h2 h3 (fun _ => ⟨hk, hs, hpl⟩) (fun h => by cases h))
      have HG := Lib.hid hpl
      clear hF hT hk hs hpl
      go_enter Tryd.func31, Tryd.ntmps31
      go_wp2_with (first
        | (go_at_call 32; refine (check08_any nd hnd _ f.ok).mono ?_; rw [HK.out]; rintro e wx ⟨rfl, q⟩; replace H := q.heap H; replace f := f.trans q; clear q; obtain ⟨c0, c1, c2, c3, c4, c5, c6, c7, c8, c9, c10, c11, c12⟩ := blk13 H)
        | (go_at_call 46; refine (place_any pb pp _ f.ok).mono ?_; rw [HG.out]; rintro e wx ⟨rfl, q⟩; replace H := q.heap H; replace f := f.trans q; clear q; obtain ⟨c0, c1, c2, c3, c4, c5, c6, c7, c8, c9, c10, c11, c12⟩ := blk13 H))
      clear HG
      go_loopg [3] cs.length (fun k v3 wc => ∃ (i : Nat) (lst : Int), v3 = .int .i64 (i : Int) ∧ k + i = cs.length ∧ Hid (-1 ≤ lst ∧ (i = 0 → lst = -1) ∧ ∀ j, i = j + 1 → ∀ h : j < cs.length, cs[j].c = lst) ∧ Hid (objB ⟨id, true, nd, pb, pp, cs⟩ = chunksB lst (cs.drop i)) ∧ Hid (Fr w wc) ∧ Hid (wc.heap[g]? = some (.cells #[.int .i64 id, .bool true, .int .i64 nd.ty, .int .i64 nd.par, .string nd.name, .int .i64 nd.size, .int .i64 nd.mode, .int .u64 nd.stamp, .int .i64 nd.shadow, .string nd.tgt, .int .i64 pb, .int .i64 pp, .slice A cs.length c] 53 (0, 0))))
      case atStart => exact ⟨0, -1, rfl, by omega, Lib.hid ⟨by omega, fun _ => rfl, fun j h => by omega⟩, HR, Lib.hid f, Lib.hid H⟩
      case round =>
        clear HR f H c0 c1 c2 c3 c4 c5 c6 c7 c8 c9 c10 c11 c12
        obtain ⟨i, lst, rfl, hk, HLS, HR, HF, HH⟩ := hrel
        have f := HF.out
        have H := HH.out
        clear HF HH
        obtain ⟨c0, c1, c2, c3, c4, c5, c6, c7, c8, c9, c10, c11, c12⟩ := blk13 H
        cases gk with
        | zero =>
          have d4 : decide ((i : Int) < (cs.length : Int)) = false := decide_eq_false (by omega)
          obtain rfl : i = cs.length := by omega
          have HR2 : Hid (objB ⟨id, true, nd, pb, pp, cs⟩ = true) := Lib.hid (by rw [HR.out, List.drop_length]; rfl)
          clear HR
          go_wp2
          go_ret
          exact ⟨by rw [HR2.out]; rfl, f⟩
        | succ k =>
          have hi : i < cs.length := by omega
          have d4 : decide ((i : Int) < (cs.length : Int)) = true := decide_eq_true (by omega)
          obtain ⟨gC, oC, hA, y0, y1, y2, y3⟩ := (hC.fr f).get hi
          have HPV : Hid (∀ j, i = j + 1 → wr.cell? ⟨gC, oC + j * 4, none⟩ = some (.int .i64 lst)) := Lib.hid (fun j hj => by
            have hjl : j < cs.length := by omega
            obtain ⟨g', o', hA', z0, _⟩ := (hC.fr f).get hjl
            rw [hA] at hA'
            injection hA' with hA'
            injection hA' with e1 e2
            subst e1; subst e2
            rw [HLS.out.2.2 j hj hjl] at z0
            exact z0)
          replace HR := Lib.hid (HR.out.trans (chunks_step hi))
          have HSV := Lib.hid (fun (j : Nat) (hj : i + 1 = j + 1) (h : j < cs.length) => (show cs[j].c = cs[i].c by have e : j = i := (by omega); subst e; rfl))
          obtain ⟨ch, hch⟩ : ∃ ch, cs[i] = ch := ⟨_, rfl⟩
          rw [hch] at y0 y1 y2 y3 HR HSV
          clear hch
          obtain ⟨cc, cb, cp, cn⟩ := ch
          dsimp only at y0 y1 y2 y3 HR HSV
          subst hA
          have hlst := HLS.out.1
          obtain ⟨w8, g8, hg8, hw8, f8, hz8, H8⟩ := boxedN f.ok #[.int .i64 cc, .int .i64 cb, .int .i64 cp, .int .i64 cn] 59
          replace HPV := Lib.hid (fun j hj => f8.cell (HPV.out j hj))
          replace H := f8.heap H
          replace f := f.trans f8
          clear f8
          obtain ⟨e0, e1, e2, e3⟩ := blk4 H8
          by_cases b1 : cc < 0
          · have HR2 := Lib.hid (HR.out.trans (by rw [decide_eq_false (show ¬ (lst < cc ∧ cc ≤ 1048575) by omega)]; rfl : _ = false))
            have HG2 : Hid (placeB cb cp = placeB cb cp) := Lib.hid rfl
            clear HR
            go_wp2_with (go_at_call 46; refine (place_any cb cp _ f.ok).mono ?_; rw [HG2.out]; rintro e wx ⟨rfl, q⟩; replace f := f.trans q; replace H8 := q.heap H8; clear q; obtain ⟨e0, e1, e2, e3⟩ := blk4 H8)
            go_ret
            exact ⟨by rw [HR2.out]; rfl, f⟩
          by_cases b2 : 1048575 < cc
          · have HR2 := Lib.hid (HR.out.trans (by rw [decide_eq_false (show ¬ (lst < cc ∧ cc ≤ 1048575) by omega)]; rfl : _ = false))
            have HG2 : Hid (placeB cb cp = placeB cb cp) := Lib.hid rfl
            clear HR
            go_wp2_with (go_at_call 46; refine (place_any cb cp _ f.ok).mono ?_; rw [HG2.out]; rintro e wx ⟨rfl, q⟩; replace f := f.trans q; replace H8 := q.heap H8; clear q; obtain ⟨e0, e1, e2, e3⟩ := blk4 H8)
            go_ret
            exact ⟨by rw [HR2.out]; rfl, f⟩
          cases hpl2 : placeB cb cp with
          | false =>
            have HR2 := Lib.hid (HR.out.trans (by rw [hpl2, Bool.and_false, Bool.false_and, Bool.false_and] : _ = false))
            have HG2 := Lib.hid hpl2
            clear hpl2
            clear HR
            go_wp2_with (go_at_call 46; refine (place_any cb cp _ f.ok).mono ?_; rw [HG2.out]; rintro e wx ⟨rfl, q⟩; replace f := f.trans q; replace H8 := q.heap H8; clear q; obtain ⟨e0, e1, e2, e3⟩ := blk4 H8)
            go_ret
            exact ⟨by rw [HR2.out]; rfl, f⟩
          | true =>
            have HG2 := Lib.hid hpl2
            by_cases b3 : cn < 0
            · have HR2 := Lib.hid (HR.out.trans (by rw [decide_eq_false (show ¬ (0 ≤ cn ∧ cn ≤ 2048) by omega), Bool.and_false, Bool.false_and] : _ = false))
              clear hpl2
              clear HR
              go_wp2_with (go_at_call 46; refine (place_any cb cp _ f.ok).mono ?_; rw [HG2.out]; rintro e wx ⟨rfl, q⟩; replace f := f.trans q; replace H8 := q.heap H8; clear q; obtain ⟨e0, e1, e2, e3⟩ := blk4 H8)
              go_ret
              exact ⟨by rw [HR2.out]; rfl, f⟩
            by_cases b4 : 2048 < cn
            · have HR2 := Lib.hid (HR.out.trans (by rw [decide_eq_false (show ¬ (0 ≤ cn ∧ cn ≤ 2048) by omega), Bool.and_false, Bool.false_and] : _ = false))
              clear hpl2
              clear HR
              go_wp2_with (go_at_call 46; refine (place_any cb cp _ f.ok).mono ?_; rw [HG2.out]; rintro e wx ⟨rfl, q⟩; replace f := f.trans q; replace H8 := q.heap H8; clear q; obtain ⟨e0, e1, e2, e3⟩ := blk4 H8)
              go_ret
              exact ⟨by rw [HR2.out]; rfl, f⟩
            replace HR := Lib.hid (HR.out.trans (by rw [hpl2, decide_eq_true (show 0 ≤ cn ∧ cn ≤ 2048 by omega), Bool.and_true, Bool.and_true] : _ = (decide (lst < cc ∧ cc ≤ 1048575) && chunksB cc (cs.drop (i + 1)))))
            clear hpl2
            go_wp2_with (go_at_call 46; refine (place_any cb cp _ f.ok).mono ?_; rw [HG2.out]; rintro e wx ⟨rfl, q⟩; replace f := f.trans q; replace H := q.heap H; replace HPV := Lib.hid (fun j hj => q.cell (HPV.out j hj)); replace H8 := q.heap H8; clear q; obtain ⟨e0, e1, e2, e3⟩ := blk4 H8; obtain ⟨c0, c1, c2, c3, c4, c5, c6, c7, c8, c9, c10, c11, c12⟩ := blk13 H)
            rcases Nat.eq_zero_or_pos i with h0 | h0
            · have hl1 := HLS.out.2.1 h0
              subst h0
              have HR2 : Hid (objB ⟨id, true, nd, pb, pp, cs⟩ = chunksB cc (cs.drop (0 + 1))) := Lib.hid (HR.out.trans (by rw [decide_eq_true (show lst < cc ∧ cc ≤ 1048575 by omega), Bool.true_and]))
              have HL1 := Lib.hid hl1
              clear hl1 HR
              have d6 : decide ((0 : Int) < ((0 : Nat) : Int)) = false := by decide
              clear hw8 hg8 y0 y1 y2 y3
              go_quiet (fail)
              go_wp2
              go_roundg k
              case measure => omega
              case rel => exact ⟨1, cc, by simp, by omega, Lib.hid ⟨by omega, fun h => by omega, HSV.out⟩, HR2, Lib.hid (f.drewN _), Lib.hid H⟩
            · obtain ⟨j, rfl⟩ : ∃ j, i = j + 1 := ⟨i - 1, by omega⟩
              have p0 := HPV.out j rfl
              have wi : IntKind.i64.wrap (((j + 1 : Nat) : Int) - 1) = (j : Int) := by rw [IntWalk.i64_in _ ⟨by omega, by omega⟩]; omega
              have j0 : (0 : Int) ≤ (j : Int) := by omega
              have j1 : (j : Int) < (cs.length : Int) := by omega
              have d6 : decide ((0 : Int) < ((j + 1 : Nat) : Int)) = true := decide_eq_true (by omega)
              clear hw8 hg8 y0 y1 y2 y3
              by_cases hge : cc ≤ lst
              · have HR2 := Lib.hid (HR.out.trans (by rw [decide_eq_false (show ¬ (lst < cc ∧ cc ≤ 1048575) by omega)]; rfl : _ = false))
                clear HR
                go_quiet (fail)
                go_wp2
                go_ret
                exact ⟨by rw [HR2.out]; rfl, f.drewN _⟩
              · have HR2 : Hid (objB ⟨id, true, nd, pb, pp, cs⟩ = chunksB cc (cs.drop (j + 1 + 1))) := Lib.hid (HR.out.trans (by rw [decide_eq_true (show lst < cc ∧ cc ≤ 1048575 by omega), Bool.true_and]))
                clear HR
                go_quiet (fail)
                go_wp2
                go_roundg k
                case measure => omega
                case rel => exact ⟨j + 1 + 1, cc, by simp, by omega, Lib.hid ⟨by omega, fun h => by omega, HSV.out⟩, HR2, Lib.hid (f.drewN _), Lib.hid H⟩
end Go.Proofs.YtefkklgelmbaiaaDoor
set_option linter.unusedSimpArgs false
set_option linter.unusedVariables false
namespace Go.Proofs.YtefkklgelmbaiaaDoor
open Go.RowKit Go.Proofs

theorem frR2 {w : World} (h : Ok w) (d : Nat) (os : Array Obj) : Fr w (Sort.grow (redrawn w d) os) := Fr.regrown h ⟨⟨d, os⟩, rfl⟩
theorem objB_id {o : Obj'} (h : objB o = true) : 2 ≤ o.id := by
  unfold objB at h
  simp only [Bool.and_eq_true, decide_eq_true_eq] at h
  exact h.1.1.1
theorem blockB_false (b : Blk) (h : ¬ (0 ≤ b.st ∧ b.st ≤ 6 ∧ b.hd ≤ 281474976710655 ∧ 0 ≤ b.live ∧ b.live ≤ 256)) : blockB b = false := decide_eq_false h
theorem blockB_true (b : Blk) (h : 0 ≤ b.st ∧ b.st ≤ 6 ∧ b.hd ≤ 281474976710655 ∧ 0 ≤ b.live ∧ b.live ≤ 256) : blockB b = true := decide_eq_true h

set_option maxHeartbeats 12800000 in
set_option maxRecDepth 100000 in
theorem may_any (s : St) (A1 : Option Addr) (c1 : Nat) (A2 : Option Addr) (c2 : Nat) (al : Al) (w : World) (hw : Ok w) (hB : BRow w A1 s.bs) (hO : ORow w A2 al s.os) (hwf : s.wf) :
    Calls Tryd.prog 14 #[.agg #[.int .u64 s.floor, .int .u64 s.next, .int .i64 s.cur, .int .i64 s.last, .slice A1 s.bs.length c1, .slice A2 s.os.length c2]] w fun e w' => e = .returned (.bool (mayB s)) ∧ Fr w w' := by
  have hF := may_goto s
  have hT := may_rest s
  obtain ⟨floor, next, cur, last, bs, os⟩ := s
  obtain ⟨_, _, _, _, _, hows, hbl, hol⟩ := hwf
  dsimp only at hB hO hows hbl hol hF hT ⊢
  obtain ⟨w1, g, hg, hw1, f, hz1, H⟩ := boxedN hw #[.int .u64 floor, .int .u64 next, .int .i64 cur, .int .i64 last, .slice A1 bs.length c1, .slice A2 os.length c2] 26
  obtain ⟨x0, x1, x2, x3, x4, x5⟩ := blk6 H
  by_cases h1 : 281474976710655 < floor
  · have HR := Lib.hid (hF (by omega))
    clear hF hT
    go_enter Tryd.func14, Tryd.ntmps14
    go_wp2
    go_ret
    exact ⟨by rw [HR.out]; rfl, f⟩
  by_cases h2 : 281474976710656 < next
  · have HR := Lib.hid (hF (by omega))
    clear hF hT
    go_enter Tryd.func14, Tryd.ntmps14
    go_wp2
    go_ret
    exact ⟨by rw [HR.out]; rfl, f⟩
  by_cases h3 : (4096 : Int) < (bs.length : Int)
  · have HR := Lib.hid (hF (by omega))
    clear hF hT
    go_enter Tryd.func14, Tryd.ntmps14
    go_wp2
    go_ret
    exact ⟨by rw [HR.out]; rfl, f⟩
  by_cases h5 : cur < -1
  · have HR := Lib.hid (hF (by omega))
    clear hF hT
    go_enter Tryd.func14, Tryd.ntmps14
    go_wp2
    go_ret
    exact ⟨by rw [HR.out]; rfl, f⟩
  by_cases h6 : (bs.length : Int) ≤ cur
  · have HR := Lib.hid (hF (by omega))
    clear hF hT
    go_enter Tryd.func14, Tryd.ntmps14
    go_wp2
    go_ret
    exact ⟨by rw [HR.out]; rfl, f⟩
  by_cases h7 : last < -1
  · have HR := Lib.hid (hF (by omega))
    clear hF hT
    go_enter Tryd.func14, Tryd.ntmps14
    go_wp2
    go_ret
    exact ⟨by rw [HR.out]; rfl, f⟩
  by_cases h8 : (bs.length : Int) ≤ last
  · have HR := Lib.hid (hF (by omega))
    clear hF hT
    go_enter Tryd.func14, Tryd.ntmps14
    go_wp2
    go_ret
    exact ⟨by rw [HR.out]; rfl, f⟩
  by_cases h4 : (1048575 : Int) < (os.length : Int)
  · have HR := Lib.hid (hF (by omega))
    clear hF hT
    go_enter Tryd.func14, Tryd.ntmps14
    go_wp2
    go_ret
    exact ⟨by rw [HR.out]; rfl, f⟩
  have HR := Lib.hid (hT (by omega))
  clear hF hT
  go_enter Tryd.func14, Tryd.ntmps14
  go_wp2
  go_loopg [4] bs.length (fun k v4 wc => ∃ (i : Nat), v4 = .int .i64 (i : Int) ∧ k + i = bs.length ∧ Hid (mayB ⟨floor, next, cur, last, bs, os⟩ = ((bs.drop i).all blockB && objsB 0 (os.drop 0))) ∧ Hid (Fr w wc) ∧ Hid (wc.heap[g]? = some (.cells #[.int .u64 floor, .int .u64 next, .int .i64 cur, .int .i64 last, .slice A1 bs.length c1, .slice A2 os.length c2] 26 (0, 0))))
  case atStart => exact ⟨0, rfl, by omega, HR, Lib.hid f, Lib.hid H⟩
  case round =>
    clear HR f H x0 x1 x2 x3 x4 x5
    obtain ⟨i, rfl, hk, HR, HF, HH⟩ := hrel
    have f := HF.out
    have H := HH.out
    clear HF HH
    obtain ⟨x0, x1, x2, x3, x4, x5⟩ := blk6 H
    cases gk with
    | zero =>
      have d4 : decide ((i : Int) < (bs.length : Int)) = false := decide_eq_false (by omega)
      obtain rfl : i = bs.length := by omega
      replace HR : Hid (mayB ⟨floor, next, cur, last, bs, os⟩ = objsB 0 (os.drop 0)) := Lib.hid (by rw [HR.out, List.drop_length]; rfl)
      go_wp2
      go_loopg [6] os.length (fun k v6 wc => ∃ (i : Nat) (lst : Int), v6 = .int .i64 (i : Int) ∧ k + i = os.length ∧ Hid ((i = 0 → lst = 0) ∧ ∀ j, i = j + 1 → ∀ h : j < os.length, os[j].id = lst) ∧ Hid (mayB ⟨floor, next, cur, last, bs, os⟩ = objsB lst (os.drop i)) ∧ Hid (Fr w wc) ∧ Hid (wc.heap[g]? = some (.cells #[.int .u64 floor, .int .u64 next, .int .i64 cur, .int .i64 last, .slice A1 bs.length c1, .slice A2 os.length c2] 26 (0, 0))))
      case atStart => exact ⟨0, 0, rfl, by omega, Lib.hid ⟨fun _ => rfl, fun j h => by omega⟩, HR, Lib.hid f, Lib.hid H⟩
      case round =>
        clear HR f H x0 x1 x2 x3 x4 x5
        obtain ⟨i, lst, rfl, hk, HLS, HR, HF, HH⟩ := hrel
        have f := HF.out
        have H := HH.out
        clear HF HH
        obtain ⟨x0, x1, x2, x3, x4, x5⟩ := blk6 H
        cases gk with
        | zero =>
          have d5 : decide ((i : Int) < (os.length : Int)) = false := decide_eq_false (by omega)
          obtain rfl : i = os.length := by omega
          have HR2 : Hid (mayB ⟨floor, next, cur, last, bs, os⟩ = true) := Lib.hid (by rw [HR.out, List.drop_length]; rfl)
          clear HR
          go_wp2
          go_ret
          exact ⟨by rw [HR2.out]; rfl, f⟩
        | succ k =>
          have hi : i < os.length := by omega
          have d5 : decide ((i : Int) < (os.length : Int)) = true := decide_eq_true (by omega)
          obtain ⟨gO, oO, hA, y0, y1, y2, y3, y4, y5, y6, y7, y8, y9, y10, y11, y12, hCc, hcl⟩ := (hO.fr f).get hi
          have HPV : Hid (∀ j, i = j + 1 → wr.cell? ⟨gO, oO + j * 13, none⟩ = some (.int .i64 lst)) := Lib.hid (fun j hj => by
            have hjl : j < os.length := by omega
            obtain ⟨g', o', hA', z0, _⟩ := (hO.fr f).get hjl
            rw [hA] at hA'
            injection hA' with hA'
            injection hA' with e1 e2
            subst e1; subst e2
            rw [HLS.out.2 j hj hjl] at z0
            exact z0)
          have hmem := List.getElem_mem hi
          obtain ⟨_, hond, _, _, _, hocl⟩ := hows _ hmem
          replace HR := Lib.hid (HR.out.trans (objs_step hi))
          have HSV := Lib.hid (fun (j : Nat) (hj : i + 1 = j + 1) (h : j < os.length) => (show os[j].id = os[i].id by have e : j = i := (by omega); subst e; rfl))
          obtain ⟨ob, hob⟩ : ∃ ob, os[i] = ob := ⟨_, rfl⟩
          rw [hob] at y0 y1 y2 y3 y4 y5 y6 y7 y8 y9 y10 y11 y12 hCc hcl hond hocl HR HSV
          clear hob hmem
          subst hA
          have HC := Lib.hid hCc
          have HN := Lib.hid hond
          clear hCc hond x0 x1 x2 x3 x4
          cases hgo : objB ob with
          | false =>
            have HR2 := Lib.hid (HR.out.trans (by rw [hgo, Bool.and_false]; rfl : _ = false))
            have HG := Lib.hid hgo
            clear HR hgo
            go_wp2
            have r_x5 := cell_regrown x5
            have r_y0 := cell_regrown y0
            have r_y1 := cell_regrown y1
            have r_y2 := cell_regrown y2
            have r_y3 := cell_regrown y3
            have r_y4 := cell_regrown y4
            have r_y5 := cell_regrown y5
            have r_y6 := cell_regrown y6
            have r_y7 := cell_regrown y7
            have r_y8 := cell_regrown y8
            have r_y9 := cell_regrown y9
            have r_y10 := cell_regrown y10
            have r_y11 := cell_regrown y11
            have r_y12 := cell_regrown y12
            refine wp_region_quiet_below (by kernel_rfl) (by kernel_rfl) ?_
            repeat (go_big_quiet_step (first | (go_at_call 31; exact qfr ((robject_any ob (al i).1 (al i).2 _ (okR f.ok _ _) (HC.out.fr (frR2 f.ok _ _)) hcl hocl HN.out).mono fun e w' h => ⟨by rw [h.1, HG.out], h.2⟩))))
            refine wpQuiet_nil ?_
            intro wq hwq
            have q := Fr.regrown f.ok hwq
            clear hwq r_x5 r_y0 r_y1 r_y2 r_y3 r_y4 r_y5 r_y6 r_y7 r_y8 r_y9 r_y10 r_y11 r_y12
            replace x5 := q.cell x5
            replace y0 := q.cell y0
            replace y1 := q.cell y1
            replace y2 := q.cell y2
            replace y3 := q.cell y3
            replace y4 := q.cell y4
            replace y5 := q.cell y5
            replace y6 := q.cell y6
            replace y7 := q.cell y7
            replace y8 := q.cell y8
            replace y9 := q.cell y9
            replace y10 := q.cell y10
            replace y11 := q.cell y11
            replace y12 := q.cell y12
            replace H := q.heap H
            replace f := f.trans q
            clear q
            go_wp2
            go_ret
            exact ⟨by rw [HR2.out]; rfl, f⟩
          | true =>
            have HG := Lib.hid hgo
            have hid2 := objB_id hgo
            rcases Nat.eq_zero_or_pos i with h0 | h0
            · have hl1 := HLS.out.1 h0
              have HR2 := Lib.hid (HR.out.trans (by rw [hgo, decide_eq_true (show lst < ob.id by omega)]; rfl : _ = objsB ob.id (os.drop (i + 1))))
              have d6 : decide ((0 : Int) < (i : Int)) = false := decide_eq_false (by omega)
              have d7 : decide (0 < i) = false := decide_eq_false (by omega)
              replace h0 := Lib.hid h0
              replace hl1 := Lib.hid hl1
              clear HR hgo
              go_wp2
              have r_x5 := cell_regrown x5
              have r_y0 := cell_regrown y0
              have r_y1 := cell_regrown y1
              have r_y2 := cell_regrown y2
              have r_y3 := cell_regrown y3
              have r_y4 := cell_regrown y4
              have r_y5 := cell_regrown y5
              have r_y6 := cell_regrown y6
              have r_y7 := cell_regrown y7
              have r_y8 := cell_regrown y8
              have r_y9 := cell_regrown y9
              have r_y10 := cell_regrown y10
              have r_y11 := cell_regrown y11
              have r_y12 := cell_regrown y12
              refine wp_region_quiet_below (by kernel_rfl) (by kernel_rfl) ?_
              repeat (go_big_quiet_step (first | (go_at_call 31; exact qfr ((robject_any ob (al i).1 (al i).2 _ (okR f.ok _ _) (HC.out.fr (frR2 f.ok _ _)) hcl hocl HN.out).mono fun e w' h => ⟨by rw [h.1, HG.out], h.2⟩))))
              refine wpQuiet_nil ?_
              intro wq hwq
              have q := Fr.regrown f.ok hwq
              clear hwq r_x5 r_y0 r_y1 r_y2 r_y3 r_y4 r_y5 r_y6 r_y7 r_y8 r_y9 r_y10 r_y11 r_y12
              replace x5 := q.cell x5
              replace y0 := q.cell y0
              replace y1 := q.cell y1
              replace y2 := q.cell y2
              replace y3 := q.cell y3
              replace y4 := q.cell y4
              replace y5 := q.cell y5
              replace y6 := q.cell y6
              replace y7 := q.cell y7
              replace y8 := q.cell y8
              replace y9 := q.cell y9
              replace y10 := q.cell y10
              replace y11 := q.cell y11
              replace y12 := q.cell y12
              replace H := q.heap H
              replace f := f.trans q
              clear q
              go_wp2
              go_roundg k
              case measure => omega
              case rel => exact ⟨i + 1, ob.id, by simp, by omega, Lib.hid ⟨fun h => by omega, HSV.out⟩, HR2, Lib.hid f, Lib.hid H⟩
            · obtain ⟨j, rfl⟩ : ∃ j, i = j + 1 := ⟨i - 1, by omega⟩
              have p0 := HPV.out j rfl
              have wi : IntKind.i64.wrap (((j + 1 : Nat) : Int) - 1) = (j : Int) := by rw [IntWalk.i64_in _ ⟨by omega, by omega⟩]; omega
              have j0 : (0 : Int) ≤ (j : Int) := by omega
              have j1 : (j : Int) < (os.length : Int) := by omega
              have d6 : decide ((0 : Int) < ((j + 1 : Nat) : Int)) = true := decide_eq_true (by omega)
              by_cases hge : ob.id ≤ lst
              · have HR2 := Lib.hid (HR.out.trans (by rw [decide_eq_false (show ¬ lst < ob.id by omega)]; rfl : _ = false))
                clear HR hgo
                go_wp2
                have r_x5 := cell_regrown x5
                have r_y0 := cell_regrown y0
                have r_y1 := cell_regrown y1
                have r_y2 := cell_regrown y2
                have r_y3 := cell_regrown y3
                have r_y4 := cell_regrown y4
                have r_y5 := cell_regrown y5
                have r_y6 := cell_regrown y6
                have r_y7 := cell_regrown y7
                have r_y8 := cell_regrown y8
                have r_y9 := cell_regrown y9
                have r_y10 := cell_regrown y10
                have r_y11 := cell_regrown y11
                have r_y12 := cell_regrown y12
                have r_p0 := cell_regrown p0
                refine wp_region_quiet_below (by kernel_rfl) (by kernel_rfl) ?_
                repeat (go_big_quiet_step (first | (go_at_call 31; exact qfr ((robject_any ob (al (j+1)).1 (al (j+1)).2 _ (okR f.ok _ _) (HC.out.fr (frR2 f.ok _ _)) hcl hocl HN.out).mono fun e w' h => ⟨by rw [h.1, HG.out], h.2⟩))))
                refine wpQuiet_nil ?_
                intro wq hwq
                have q := Fr.regrown f.ok hwq
                clear hwq r_x5 r_y0 r_y1 r_y2 r_y3 r_y4 r_y5 r_y6 r_y7 r_y8 r_y9 r_y10 r_y11 r_y12 r_p0
                replace x5 := q.cell x5
                replace y0 := q.cell y0
                replace y1 := q.cell y1
                replace y2 := q.cell y2
                replace y3 := q.cell y3
                replace y4 := q.cell y4
                replace y5 := q.cell y5
                replace y6 := q.cell y6
                replace y7 := q.cell y7
                replace y8 := q.cell y8
                replace y9 := q.cell y9
                replace y10 := q.cell y10
                replace y11 := q.cell y11
                replace y12 := q.cell y12
                replace p0 := q.cell p0
                replace H := q.heap H
                replace f := f.trans q
                clear q
                go_wp2
                go_ret
                exact ⟨by rw [HR2.out]; rfl, f⟩
              · have HR2 := Lib.hid (HR.out.trans (by rw [hgo, decide_eq_true (show lst < ob.id by omega)]; rfl : _ = objsB ob.id (os.drop (j + 1 + 1))))
                clear HR hgo
                go_wp2
                have r_x5 := cell_regrown x5
                have r_y0 := cell_regrown y0
                have r_y1 := cell_regrown y1
                have r_y2 := cell_regrown y2
                have r_y3 := cell_regrown y3
                have r_y4 := cell_regrown y4
                have r_y5 := cell_regrown y5
                have r_y6 := cell_regrown y6
                have r_y7 := cell_regrown y7
                have r_y8 := cell_regrown y8
                have r_y9 := cell_regrown y9
                have r_y10 := cell_regrown y10
                have r_y11 := cell_regrown y11
                have r_y12 := cell_regrown y12
                have r_p0 := cell_regrown p0
                refine wp_region_quiet_below (by kernel_rfl) (by kernel_rfl) ?_
                repeat (go_big_quiet_step (first | (go_at_call 31; exact qfr ((robject_any ob (al (j+1)).1 (al (j+1)).2 _ (okR f.ok _ _) (HC.out.fr (frR2 f.ok _ _)) hcl hocl HN.out).mono fun e w' h => ⟨by rw [h.1, HG.out], h.2⟩))))
                refine wpQuiet_nil ?_
                intro wq hwq
                have q := Fr.regrown f.ok hwq
                clear hwq r_x5 r_y0 r_y1 r_y2 r_y3 r_y4 r_y5 r_y6 r_y7 r_y8 r_y9 r_y10 r_y11 r_y12 r_p0
                replace x5 := q.cell x5
                replace y0 := q.cell y0
                replace y1 := q.cell y1
                replace y2 := q.cell y2
                replace y3 := q.cell y3
                replace y4 := q.cell y4
                replace y5 := q.cell y5
                replace y6 := q.cell y6
                replace y7 := q.cell y7
                replace y8 := q.cell y8
                replace y9 := q.cell y9
                replace y10 := q.cell y10
                replace y11 := q.cell y11
                replace y12 := q.cell y12
                replace p0 := q.cell p0
                replace H := q.heap H
                replace f := f.trans q
                clear q
                go_wp2
                go_roundg k
                case measure => omega
                case rel => exact ⟨j + 1 + 1, ob.id, by simp, by omega, Lib.hid ⟨fun h => by omega, HSV.out⟩, HR2, Lib.hid f, Lib.hid H⟩
    | succ k =>
      have hi : i < bs.length := by omega
      have d4 : decide ((i : Int) < (bs.length : Int)) = true := decide_eq_true (by omega)
      obtain ⟨gC, oC, hA, y0, y1, y2, y3⟩ := (hB.fr f).get hi
      replace HR := Lib.hid (HR.out.trans (all_step hi))
      obtain ⟨b, hb⟩ : ∃ b, bs[i] = b := ⟨_, rfl⟩
      rw [hb] at y0 y1 y2 y3 HR
      clear hb
      subst hA
      have hbf := blockB_false b
      have hbt := blockB_true b
      obtain ⟨st, hd, real, live⟩ := b
      dsimp only at y0 y1 y2 y3 hbf hbt
      obtain ⟨w8, g8, hg8, hw8, f8, hz8, H8⟩ := boxedN f.ok #[.int .i64 st, .int .u64 hd, .bool real, .int .i64 live] 45
      replace H := f8.heap H
      replace f := f.trans f8
      obtain ⟨e0, e1, e2, e3⟩ := blk4 H8
      clear f8
      by_cases b1 : st < 0
      · have HR2 := Lib.hid (HR.out.trans (by rw [hbf (by omega)]; rfl : _ = false))
        clear hbf hbt
        clear HR
        go_wp2
        go_ret
        exact ⟨by rw [HR2.out]; rfl, f⟩
      by_cases b2 : 6 < st
      · have HR2 := Lib.hid (HR.out.trans (by rw [hbf (by omega)]; rfl : _ = false))
        clear hbf hbt
        clear HR
        go_wp2
        go_ret
        exact ⟨by rw [HR2.out]; rfl, f⟩
      by_cases b3 : 281474976710655 < hd
      · have HR2 := Lib.hid (HR.out.trans (by rw [hbf (by omega)]; rfl : _ = false))
        clear hbf hbt
        clear HR
        go_wp2
        go_ret
        exact ⟨by rw [HR2.out]; rfl, f⟩
      by_cases b4 : live < 0
      · have HR2 := Lib.hid (HR.out.trans (by rw [hbf (by omega)]; rfl : _ = false))
        clear hbf hbt
        clear HR
        go_wp2
        go_ret
        exact ⟨by rw [HR2.out]; rfl, f⟩
      by_cases b5 : 256 < live
      · have HR2 := Lib.hid (HR.out.trans (by rw [hbf (by omega)]; rfl : _ = false))
        clear hbf hbt
        clear HR
        go_wp2
        go_ret
        exact ⟨by rw [HR2.out]; rfl, f⟩
      have HR2 := Lib.hid (HR.out.trans (by rw [hbt (by omega), Bool.true_and] : _ = ((bs.drop (i + 1)).all blockB && objsB 0 (os.drop 0))))
      clear hbf hbt HR
      go_wp2
      go_roundg k
      case measure => omega
      case rel => exact ⟨i + 1, by simp, by omega, HR2, Lib.hid f, Lib.hid H⟩
end Go.Proofs.YtefkklgelmbaiaaDoor
set_option linter.unusedSimpArgs false
set_option linter.unusedVariables false
namespace Go.Proofs.YtefkklgelmbaiaaDoor
open Go.RowKit Go.Proofs

end Go.Proofs.YtefkklgelmbaiaaDoor
set_option linter.unusedSimpArgs false
set_option linter.unusedVariables false
namespace Go.Proofs.YtefkklgelmbaiaaDoor
open Go.RowKit Go.Proofs

end Go.Proofs.YtefkklgelmbaiaaDoor
set_option linter.unusedSimpArgs false
set_option linter.unusedVariables false
namespace Go.Proofs.YtefkklgelmbaiaaDoor
open Go.RowKit Go.Proofs

theorem eqBlock (d : Nat) (w : World) (x y : Blk) :
    (Op.equalIn (d + 2) 45 (.agg #[.int .i64 x.st, .int .u64 x.hd, .bool x.real, .int .i64 x.live]) (.agg #[.int .i64 y.st, .int .u64 y.hd, .bool y.real, .int .i64 y.live])).run Tryd.prog w = .ok (x.st == y.st && (x.hd == y.hd && (x.real == y.real && (x.live == y.live && true)))) w := by
  refine eq_struct Tryd.underlying45 (by kernel_rfl) ?_
  refine eq_field (by decide) (by go_simp <;> rfl) (by go_simp <;> rfl) (by go_simp) ?_
  refine eq_field (by decide) (by go_simp <;> rfl) (by go_simp <;> rfl) (by go_simp) ?_
  refine eq_field (by decide) (by go_simp <;> rfl) (by go_simp <;> rfl) (by go_simp) ?_
  exact eq_field (by decide) (by go_simp <;> rfl) (by go_simp <;> rfl) (by go_simp) eq_done
theorem eqPiece (d : Nat) (w : World) (x y : Chk) :
    (Op.equalIn (d + 3) 57 (.agg #[.int .i64 x.b, .int .i64 x.p, .int .i64 x.n]) (.agg #[.int .i64 y.b, .int .i64 y.p, .int .i64 y.n])).run Tryd.prog w = .ok ((x.b == y.b && (x.p == y.p && true)) && (x.n == y.n && true)) w := by
  refine eq_struct Tryd.underlying57 (by kernel_rfl) ?_
  refine eq_field (by decide) (by go_simp <;> rfl) (by go_simp <;> rfl) (eqPlace d w x.b y.b x.p y.p) ?_
  exact eq_field (by decide) (by go_simp <;> rfl) (by go_simp <;> rfl) (by go_simp) eq_done
theorem eqChunk (d : Nat) (w : World) (x y : Chk) :
    (Op.equalIn (d + 4) 59 (.agg #[.int .i64 x.c, .int .i64 x.b, .int .i64 x.p, .int .i64 x.n]) (.agg #[.int .i64 y.c, .int .i64 y.b, .int .i64 y.p, .int .i64 y.n])).run Tryd.prog w = .ok (x.c == y.c && (((x.b == y.b && (x.p == y.p && true)) && (x.n == y.n && true)) && true)) w := by
  refine eq_struct Tryd.underlying59 (by kernel_rfl) ?_
  refine eq_field (by decide) (by go_simp <;> rfl) (by go_simp <;> rfl) (by go_simp) ?_
  exact eq_field (by decide) (by go_simp <;> rfl) (by go_simp <;> rfl) (eqPiece d w x y) eq_done
theorem eqBlock1 (w : World) (x : Blk) : (Op.equalIn 10000 45 (.agg #[.int .i64 x.st, .int .u64 x.hd, .bool x.real, .int .i64 x.live]) (.agg #[.int .i64 x.st, .int .u64 x.hd, .bool x.real, .int .i64 x.live])).run Tryd.prog w = .ok true w := by
  have := eqBlock 9998 w x x
  simpa using this
theorem eqChunk1 (w : World) (x : Chk) : (Op.equalIn 10000 59 (.agg #[.int .i64 x.c, .int .i64 x.b, .int .i64 x.p, .int .i64 x.n]) (.agg #[.int .i64 x.c, .int .i64 x.b, .int .i64 x.p, .int .i64 x.n])).run Tryd.prog w = .ok true w := by
  have := eqChunk 9996 w x x
  simpa using this
theorem eqPlace1 (w : World) (b p : Int) : (Op.equalIn 10000 50 (.agg #[.int .i64 b, .int .i64 p]) (.agg #[.int .i64 b, .int .i64 p])).run Tryd.prog w = .ok true w := by
  have := eqPlace 9998 w b b p p
  simpa using this
theorem eqNode1 (w : World) (n : Nod) : (Op.equalIn 10000 48 (.agg #[.int .i64 n.ty, .int .i64 n.par, .string n.name, .int .i64 n.size, .int .i64 n.mode, .int .u64 n.stamp, .int .i64 n.shadow, .string n.tgt]) (.agg #[.int .i64 n.ty, .int .i64 n.par, .string n.name, .int .i64 n.size, .int .i64 n.mode, .int .u64 n.stamp, .int .i64 n.shadow, .string n.tgt])).run Tryd.prog w = .ok true w := by
  have := eqNode 9998 w n n
  simpa [nodV] using this

set_option maxHeartbeats 12800000 in
set_option maxRecDepth 100000 in
theorem same10_true (os : List Obj') (A B : Option Addr) (c c' : Nat) (al bl : Al) (w : World) (hw : Ok w) (hA : ORow w A al os) (hB : ORow w B bl os) (hn : os.length ≤ 1099511627776) (hcn : ∀ o ∈ os, o.cs.length ≤ 1099511627776) :
    Calls Tryd.prog 30 #[.slice A os.length c, .slice B os.length c'] w fun e w' => e = .returned (.bool true) ∧ Fr w w' := by
  have f := Fr.refl hw
  go_enter Tryd.func30, Tryd.ntmps30
  go_wp2
  go_loopg [5] os.length (fun k v5 wc => ∃ (i : Nat), v5 = .int .i64 (i : Int) ∧ k + i = os.length ∧ Hid (Fr w wc))
  case atStart => exact ⟨0, rfl, by omega, Lib.hid f⟩
  case round =>
    clear f
    obtain ⟨i, rfl, hk, HF⟩ := hrel
    have f := HF.out
    clear HF
    cases gk with
    | zero =>
      have d5 : decide ((i : Int) < (os.length : Int)) = false := decide_eq_false (by omega)
      obtain rfl : i = os.length := by omega
      go_wp2
      go_ret
      exact ⟨rfl, f⟩
    | succ k =>
      have hi : i < os.length := by omega
      have d5 : decide ((i : Int) < (os.length : Int)) = true := decide_eq_true (by omega)
      obtain ⟨gO, oO, hA1, y0, y1, y2, y3, y4, y5, y6, y7, y8, y9, y10, y11, y12, _, hcl⟩ := (hA.fr f).get hi
      obtain ⟨gP, oP, hB1, z0, z1, z2, z3, z4, z5, z6, z7, z8, z9, z10, z11, z12, _, hcl2⟩ := (hB.fr f).get hi
      have hC1 := (hA.2 i os[i] (by simp [hi])).1
      have hC2 := (hB.2 i os[i] (by simp [hi])).1
      have hcn1 := hcn _ (List.getElem_mem hi)
      obtain ⟨ob, hob⟩ : ∃ ob, os[i] = ob := ⟨_, rfl⟩
      rw [hob] at y0 y1 y2 y3 y4 y5 y6 y7 y8 y9 y10 y11 y12 z0 z1 z2 z3 z4 z5 z6 z7 z8 z9 z10 z11 z12 hcl hcl2 hC1 hC2 hcn1
      clear hob
      subst hA1
      subst hB1
      obtain ⟨id, head, nd, pb, pp, cs⟩ := ob
      dsimp only at y0 y1 y2 y3 y4 y5 y6 y7 y8 y9 y10 y11 y12 z0 z1 z2 z3 z4 z5 z6 z7 z8 z9 z10 z11 z12 hcl hcl2 hC1 hC2 hcn1
      obtain ⟨a1, ha1⟩ : ∃ a1, al i = a1 := ⟨_, rfl⟩
      obtain ⟨a2, ha2⟩ : ∃ a2, bl i = a2 := ⟨_, rfl⟩
      rw [ha1] at y12 hcl hC1
      rw [ha2] at z12 hcl2 hC2
      clear ha1 ha2
      obtain ⟨A1, c1⟩ := a1
      obtain ⟨A2, c2⟩ := a2
      dsimp only at y12 z12 hcl hcl2 hC1 hC2
      have HC1 := Lib.hid hC1
      have HC2 := Lib.hid hC2
      clear hC1 hC2
      obtain ⟨w8, g8, hg8, hw8, f8, hz8, H8⟩ := boxedN f.ok #[.int .i64 id, .bool head, .int .i64 nd.ty, .int .i64 nd.par, .string nd.name, .int .i64 nd.size, .int .i64 nd.mode, .int .u64 nd.stamp, .int .i64 nd.shadow, .string nd.tgt, .int .i64 pb, .int .i64 pp, .slice A1 cs.length c1] 53
      replace f := f.trans f8
      replace z0 := f8.cell z0
      replace z1 := f8.cell z1
      replace z2 := f8.cell z2
      replace z3 := f8.cell z3
      replace z4 := f8.cell z4
      replace z5 := f8.cell z5
      replace z6 := f8.cell z6
      replace z7 := f8.cell z7
      replace z8 := f8.cell z8
      replace z9 := f8.cell z9
      replace z10 := f8.cell z10
      replace z11 := f8.cell z11
      replace z12 := f8.cell z12
      obtain ⟨w9, g9, hg9, hw9, f9, hz9, H9⟩ := boxedN f.ok #[.int .i64 id, .bool head, .int .i64 nd.ty, .int .i64 nd.par, .string nd.name, .int .i64 nd.size, .int .i64 nd.mode, .int .u64 nd.stamp, .int .i64 nd.shadow, .string nd.tgt, .int .i64 pb, .int .i64 pp, .slice A2 cs.length c2] 53
      replace f := f.trans f9
      replace H8 := f9.heap H8
      clear f8 f9
      obtain ⟨e0, e1, e2, e3, e4, e5, e6, e7, e8, e9, e10, e11, e12⟩ := blk13 H8
      obtain ⟨l0, l1, l2, l3, l4, l5, l6, l7, l8, l9, l10, l11, l12⟩ := blk13 H9
      have hE := fun W => eqNode1 W nd
      have hE2 := fun W => eqPlace1 W pb pp
      go_wp2
      go_loopg [8] cs.length (fun k v8 wc => ∃ (j : Nat), v8 = .int .i64 (j : Int) ∧ k + j = cs.length ∧ Hid (Fr w wc) ∧ Hid (wc.heap[g8]? = some (.cells #[.int .i64 id, .bool head, .int .i64 nd.ty, .int .i64 nd.par, .string nd.name, .int .i64 nd.size, .int .i64 nd.mode, .int .u64 nd.stamp, .int .i64 nd.shadow, .string nd.tgt, .int .i64 pb, .int .i64 pp, .slice A1 cs.length c1] 53 (0, 0))) ∧ Hid (wc.heap[g9]? = some (.cells #[.int .i64 id, .bool head, .int .i64 nd.ty, .int .i64 nd.par, .string nd.name, .int .i64 nd.size, .int .i64 nd.mode, .int .u64 nd.stamp, .int .i64 nd.shadow, .string nd.tgt, .int .i64 pb, .int .i64 pp, .slice A2 cs.length c2] 53 (0, 0))))
      case atStart => exact ⟨0, rfl, by omega, Lib.hid f, Lib.hid H8, Lib.hid H9⟩
      case round =>
        clear f H8 H9 e0 e1 e2 e3 e4 e5 e6 e7 e8 e9 e10 e11 e12 l0 l1 l2 l3 l4 l5 l6 l7 l8 l9 l10 l11 l12 hE hE2 hw8 hw9 y0 y1 y2 y3 y4 y5 y6 y7 y8 y9 y10 y11 y12 z0 z1 z2 z3 z4 z5 z6 z7 z8 z9 z10 z11 z12
        obtain ⟨j, rfl, hj, HF, HH8, HH9⟩ := hrel
        have f := HF.out
        have H8 := HH8.out
        have H9 := HH9.out
        clear HF HH8 HH9
        obtain ⟨e0, e1, e2, e3, e4, e5, e6, e7, e8, e9, e10, e11, e12⟩ := blk13 H8
        obtain ⟨l0, l1, l2, l3, l4, l5, l6, l7, l8, l9, l10, l11, l12⟩ := blk13 H9
        cases gk with
        | zero =>
          have d6 : decide ((j : Int) < (cs.length : Int)) = false := decide_eq_false (by omega)
          go_wp2
          go_roundg k
          case measure => omega
          case rel => exact ⟨i + 1, by simp, by omega, Lib.hid f⟩
        | succ kk =>
          have hj2 : j < cs.length := by omega
          have d6 : decide ((j : Int) < (cs.length : Int)) = true := decide_eq_true (by omega)
          obtain ⟨gC, oC, hA2, s0, s1, s2, s3⟩ := (HC1.out.fr f).get hj2
          obtain ⟨gD, oD, hB2, t0, t1, t2, t3⟩ := (HC2.out.fr f).get hj2
          obtain ⟨ch, hch⟩ : ∃ ch, cs[j] = ch := ⟨_, rfl⟩
          rw [hch] at s0 s1 s2 s3 t0 t1 t2 t3
          clear hch
          subst hA2
          subst hB2
          have hE := fun W => eqChunk1 W ch
          clear e0 e1 e2 e3 e4 e5 e6 e7 e8 e9 e10 e11 l0 l1 l2 l3 l4 l5 l6 l7 l8 l9 l10 l11
          go_wp2
          have r_e12 := cell_regrown e12
          have r_l12 := cell_regrown l12
          have r_s0 := cell_regrown s0
          have r_s1 := cell_regrown s1
          have r_s2 := cell_regrown s2
          have r_s3 := cell_regrown s3
          have r_t0 := cell_regrown t0
          have r_t1 := cell_regrown t1
          have r_t2 := cell_regrown t2
          have r_t3 := cell_regrown t3
          refine wp_region_quiet_below (by kernel_rfl) (by kernel_rfl) ?_
          repeat (go_big_quiet_step (fail))
          refine wpQuiet_nil ?_
          intro wq hwq
          have q := Fr.regrown f.ok hwq
          clear hwq r_e12 r_l12 r_s0 r_s1 r_s2 r_s3 r_t0 r_t1 r_t2 r_t3
          replace e12 := q.cell e12
          replace l12 := q.cell l12
          replace s0 := q.cell s0
          replace s1 := q.cell s1
          replace s2 := q.cell s2
          replace s3 := q.cell s3
          replace t0 := q.cell t0
          replace t1 := q.cell t1
          replace t2 := q.cell t2
          replace t3 := q.cell t3
          replace H8 := q.heap H8; replace H9 := q.heap H9
          replace f := f.trans q
          clear q
          go_wp2
          go_roundg kk
          case measure => omega
          case rel => exact ⟨j + 1, by simp, by omega, Lib.hid f, Lib.hid H8, Lib.hid H9⟩

set_option maxHeartbeats 12800000 in
set_option maxRecDepth 100000 in
theorem same13_true (s : St) (A1 B1 A2 B2 : Option Addr) (c1 d1 c2 d2 : Nat) (al bl : Al) (w : World) (hw : Ok w) (hA1 : BRow w A1 s.bs) (hB1 : BRow w B1 s.bs) (hA2 : ORow w A2 al s.os) (hB2 : ORow w B2 bl s.os) (hwf : s.wf) (hcn : ∀ o ∈ s.os, o.cs.length ≤ 1099511627776) :
    Calls Tryd.prog 13 #[.agg #[.int .u64 s.floor, .int .u64 s.next, .int .i64 s.cur, .int .i64 s.last, .slice A1 s.bs.length c1, .slice A2 s.os.length c2], .agg #[.int .u64 s.floor, .int .u64 s.next, .int .i64 s.cur, .int .i64 s.last, .slice B1 s.bs.length d1, .slice B2 s.os.length d2]] w fun e w' => e = .returned (.bool true) ∧ Fr w w' := by
  obtain ⟨_, _, _, _, _, _, hbl, hol⟩ := hwf
  obtain ⟨floor, next, cur, last, bs, os⟩ := s
  dsimp only at *
  have HS := Lib.hid (fun W (f : Fr w W) => same10_true os A2 B2 c2 d2 al bl W f.ok (hA2.fr f) (hB2.fr f) hol hcn)
  obtain ⟨w1, g1, hg1, hw1, f, hz1, H⟩ := boxedN hw #[.int .u64 floor, .int .u64 next, .int .i64 cur, .int .i64 last, .slice A1 bs.length c1, .slice A2 os.length c2] 26
  obtain ⟨w2, g2, hg2, hw2, f2, hz2, H2⟩ := boxedN f.ok #[.int .u64 floor, .int .u64 next, .int .i64 cur, .int .i64 last, .slice B1 bs.length d1, .slice B2 os.length d2] 26
  replace f := f.trans f2
  replace H := f2.heap H
  clear f2
  obtain ⟨x0, x1, x2, x3, x4, x5⟩ := blk6 H
  obtain ⟨z0, z1, z2, z3, z4, z5⟩ := blk6 H2
  go_enter Tryd.func13, Tryd.ntmps13
  go_wp2
  go_loopg [5] bs.length (fun k v5 wc => ∃ (i : Nat), v5 = .int .i64 (i : Int) ∧ k + i = bs.length ∧ Hid (Fr w wc) ∧ Hid (wc.heap[g1]? = some (.cells #[.int .u64 floor, .int .u64 next, .int .i64 cur, .int .i64 last, .slice A1 bs.length c1, .slice A2 os.length c2] 26 (0, 0))) ∧ Hid (wc.heap[g2]? = some (.cells #[.int .u64 floor, .int .u64 next, .int .i64 cur, .int .i64 last, .slice B1 bs.length d1, .slice B2 os.length d2] 26 (0, 0))))
  case atStart => exact ⟨0, rfl, by omega, Lib.hid f, Lib.hid H, Lib.hid H2⟩
  case round =>
    clear f H H2 x0 x1 x2 x3 x4 x5 z0 z1 z2 z3 z4 z5 hw1 hw2
    obtain ⟨i, rfl, hk, HF, HH, HH2⟩ := hrel
    have f := HF.out
    have H := HH.out
    have H2 := HH2.out
    clear HF HH HH2
    obtain ⟨x0, x1, x2, x3, x4, x5⟩ := blk6 H
    obtain ⟨z0, z1, z2, z3, z4, z5⟩ := blk6 H2
    cases gk with
    | zero =>
      have d5 : decide ((i : Int) < (bs.length : Int)) = false := decide_eq_false (by omega)
      go_wp2_with (go_at_call 30; refine (HS.out _ f).mono ?_; rintro e wx ⟨rfl, q⟩; replace f := f.trans q; clear q)
      go_ret
      exact ⟨rfl, f⟩
    | succ k =>
      have hi : i < bs.length := by omega
      have d5 : decide ((i : Int) < (bs.length : Int)) = true := decide_eq_true (by omega)
      obtain ⟨gC, oC, hA3, s0, s1, s2, s3⟩ := (hA1.fr f).get hi
      obtain ⟨gD, oD, hB3, t0, t1, t2, t3⟩ := (hB1.fr f).get hi
      obtain ⟨b, hb⟩ : ∃ b, bs[i] = b := ⟨_, rfl⟩
      rw [hb] at s0 s1 s2 s3 t0 t1 t2 t3
      clear hb
      rw [hA3] at x4
      rw [hB3] at z4
      have hE := fun W => eqBlock1 W b
      replace hA3 := Lib.hid hA3
      replace hB3 := Lib.hid hB3
      clear x0 x1 x2 x3 x5 z0 z1 z2 z3 z5
      go_wp2_with fail
      have r_x4 := cell_regrown x4
      have r_z4 := cell_regrown z4
      have r_s0 := cell_regrown s0
      have r_s1 := cell_regrown s1
      have r_s2 := cell_regrown s2
      have r_s3 := cell_regrown s3
      have r_t0 := cell_regrown t0
      have r_t1 := cell_regrown t1
      have r_t2 := cell_regrown t2
      have r_t3 := cell_regrown t3
      refine wp_region_quiet_below (by kernel_rfl) (by kernel_rfl) ?_
      repeat (go_big_quiet_step (fail))
      refine wpQuiet_nil ?_
      intro wq hwq
      have q := Fr.regrown f.ok hwq
      clear hwq r_x4 r_z4 r_s0 r_s1 r_s2 r_s3 r_t0 r_t1 r_t2 r_t3
      replace x4 := q.cell x4
      replace z4 := q.cell z4
      replace s0 := q.cell s0
      replace s1 := q.cell s1
      replace s2 := q.cell s2
      replace s3 := q.cell s3
      replace t0 := q.cell t0
      replace t1 := q.cell t1
      replace t2 := q.cell t2
      replace t3 := q.cell t3
      replace H := q.heap H; replace H2 := q.heap H2
      replace f := f.trans q
      clear q
      go_wp2
      go_roundg k
      case measure => omega
      case rel => exact ⟨i + 1, by simp, by omega, Lib.hid f, Lib.hid H, Lib.hid H2⟩
end Go.Proofs.YtefkklgelmbaiaaDoor
set_option linter.unusedSimpArgs false
set_option linter.unusedVariables false
namespace Go.Proofs.YtefkklgelmbaiaaDoor
open Go.RowKit Go.Proofs

/-- the room behind a copied state's lists -/
structure Room (w : World) (s : St) (B1 : Option Addr) (d1 : Nat) (B2 : Option Addr) (d2 : Nat) (bl : Al) : Prop where
  b : ∃ g, B1 = some ⟨g, 0, none⟩ ∧ w.cell? ⟨g, s.bs.length * 4, none⟩ = some (.int .i64 77) ∧ w.cell? ⟨g, (s.bs.length + 1) * 4, none⟩ = some (.int .i64 78)
  bc : s.bs.length + 2 ≤ d1
  o : ∃ g, B2 = some ⟨g, 0, none⟩ ∧ w.cell? ⟨g, s.os.length * 13, none⟩ = some (.int .i64 81) ∧ w.cell? ⟨g, (s.os.length + 1) * 13, none⟩ = some (.int .i64 82)
  oc : s.os.length + 2 ≤ d2
  k : ∀ i (h : i < s.os.length), ∃ g, (bl i).1 = some ⟨g, 0, none⟩ ∧ w.cell? ⟨g, s.os[i].cs.length * 4, none⟩ = some (.int .i64 79) ∧ w.cell? ⟨g, (s.os[i].cs.length + 1) * 4, none⟩ = some (.int .i64 80) ∧ s.os[i].cs.length + 2 ≤ (bl i).2
theorem Room.fr {w w' : World} {s : St} {B1 B2 : Option Addr} {d1 d2 : Nat} {bl : Al} (h : Room w s B1 d1 B2 d2 bl) (q : Fr w w') : Room w' s B1 d1 B2 d2 bl where
  b := by obtain ⟨g, h1, h2, h3⟩ := h.b; exact ⟨g, h1, q.cell h2, q.cell h3⟩
  bc := h.bc
  o := by obtain ⟨g, h1, h2, h3⟩ := h.o; exact ⟨g, h1, q.cell h2, q.cell h3⟩
  oc := h.oc
  k := fun i hi => by obtain ⟨g, h1, h2, h3, h4⟩ := h.k i hi; exact ⟨g, h1, q.cell h2, q.cell h3, h4⟩

end Go.Proofs.YtefkklgelmbaiaaDoor
namespace Go.Proofs.YtefkklgelmbaiaaDoor.Reg
open Go Go.RowKit Go.Sort

section
variable {P : Program} {ops : Array Oper} {md : Region.Mode} {S : World → Prop} {D : Nat} {Q : Exit → Act → World → Prop}

def lateL : List Nat → Array Bool → Array Bool
  | [], listed => listed
  | k :: qs, listed => lateL qs (listed.setIfInBounds k true)
def lateT (md : Region.Mode) (ops : Array Oper) (D : Nat) : List Nat → Array Bool → Bool
  | [], _ => true
  | k :: qs, listed => decide (k ≠ D) && (Region.waitsFor md ops D k || (List.range ops.size).any fun j => Region.waitsFor md ops D j && Region.waitsFor md ops j k) && (Region.ready md ops listed).contains k && Region.free md ops listed k && lateT md ops D qs (listed.setIfInBounds k true)
def seqI (md : Region.Mode) (ops : Array Oper) : List Nat → Array Bool → Bool
  | [], listed => decide (Region.ready md ops listed = [])
  | k :: rest, listed => decide (Region.ready md ops listed = [k]) && seqI md ops rest (listed.setIfInBounds k true)
def wpLateT (P : Program) (ops : Array Oper) (S : World → Prop) (K : Act → Prop) : List Nat → Act → Prop
  | [], a => K a
  | k :: qs, a => ∃ o, ops[k]? = some o ∧ ∃ v, YieldsIf P ops S o v a ∧ wpLateT P ops S K qs (a.put o.dst v)
def wpMainT (P : Program) (ops : Array Oper) (Q : Exit → Act → World → Prop) (S : World → Prop) (D : Nat) : List Nat → Act → World → Prop
  | [], a, w => Q .normal a w
  | k :: rest, a, w => wpOp P ops Q k (fun a' w' => (k = D ∨ S w') ∧ wpMainT P ops Q S D rest a' w') a w

theorem wpAnyT_main : ∀ (rest : List Nat) (listed : Array Bool) (a : Act) (w : World), seqI md ops rest listed = true → wpMainT P ops Q S D rest a w → wpAnyT P md ops Q S D rest.length listed a w
  | [], _, _, _, hB, h => ⟨by simpa [seqI] using hB, h⟩
  | k :: rest, listed, a, w, hB, h => by
    simp only [seqI, Bool.and_eq_true, decide_eq_true_eq] at hB
    refine ⟨fun h1 => (by rw [hB.1] at h1; cases h1), fun i hi => ?_⟩
    rw [hB.1] at hi
    have hik : i = k := by simpa using hi
    subst hik
    refine wpOp_mono (fun a' w' h' => ⟨fun hD => h'.1.resolve_left (fun e => ?_), wpAnyT_main rest _ a' w' hB.2 h'.2⟩) h
    subst e
    rw [getD_set_self] at hD
    cases hD

theorem wpAnyT_late {K : Act → Prop} (hsel : Region.noSelect ops = true) (hQ : ∀ c a d v w, Q (.panic c) (Act.put a d v) w → Q (.panic c) a w) :
    ∀ (qs : List Nat) (fuel : Nat) (listed : Array Bool) (a : Act) (w : World), lateT md ops D qs listed = true → ClosedL md ops listed → listed.getD D true = false → S w →
      (∀ a', K a' → wpAnyT P md ops Q S D fuel (lateL qs listed) a' w) → wpLateT P ops S K qs a → wpAnyT P md ops Q S D (qs.length + fuel) listed a w
  | [], fuel, _, a, _, _, _, _, _, hK, h => by simpa [lateL] using hK a h
  | k :: qs, fuel, listed, a, w, hB, hcl, hD, hS, hK, h => by
    obtain ⟨o, h0, v, hy, h⟩ := h
    simp only [lateT, Bool.and_eq_true, decide_eq_true_eq] at hB
    obtain ⟨⟨⟨⟨hkD, hwt⟩, hr⟩, hf⟩, hB'⟩ := hB
    have hwt' : Waits md ops D k := by
      simp only [Bool.or_eq_true, List.any_eq_true, Bool.and_eq_true] at hwt
      rcases hwt with h | ⟨j, _, h⟩
      · exact .inl h
      · exact .inr ⟨j, h⟩
    rw [show (k :: qs).length + fuel = (qs.length + fuel) + 1 by simp only [List.length_cons]; omega]
    refine wpAnyT_first h0 hwt' hkD (Region.noSelect_spec hsel) (fun c a w h => hQ c a _ _ w h) _ listed a w (Region.free_spec h0 hf) (by simpa using hr) hcl hD hy hS ?_
    exact wpAnyT_late hsel hQ qs fuel _ _ w hB' (hcl.set (by simpa using hr)) (by rw [getD_set_ne true hkD]; exact hD) hS hK h

def lateB (md : Region.Mode) (ops : Array Oper) (D : Nat) (qs rest : List Nat) : Bool :=
  Region.noSelect ops && decide (D < ops.size) && decide (qs.length + rest.length = ops.size) && lateT md ops D qs (Array.replicate ops.size false) && seqI md ops rest (lateL qs (Array.replicate ops.size false))

theorem wp_region_late {id : Nat} {a : Act} {w : World} (S : World → Prop) (D : Nat) (qs rest : List Nat) (hm : P.follows .mixedOrders = true) (hB : lateB .any ops D qs rest = true) (hS : S w.drew)
    (h : wpLateT P ops S (fun a' => wpMainT P ops (NoPanic Q) S D rest a' w.drew) qs a) : (Code.region id ops true).wp P Q a w := by
  simp only [lateB, Bool.and_eq_true, decide_eq_true_eq] at hB
  obtain ⟨⟨⟨⟨hsel, hD⟩, hsz⟩, hlate⟩, hseq⟩ := hB
  refine wp_region_noPanic (wp_region_any hm (wpAny_of_T (S := S) (D := D) _ _ _ _ ?_))
  rw [← hsz]
  refine wpAnyT_late (md := .any) hsel (fun _ _ _ _ _ h => h) qs rest.length _ a _ ?_ ?_ ?_ hS (fun a' h' => wpAnyT_main rest _ a' _ ?_ h') h
  · rw [hsz]; exact hlate
  · rw [hsz]
    intro j oj _ hl
    rw [getD_replicate_false] at hl; cases hl
  · rw [hsz]
    exact getD_in (by simpa using hD) (getD_replicate_false _ _)
  · rw [hsz]; exact hseq

theorem wpLateT_step {k : Nat} {qs : List Nat} {a : Act} {o : Oper} {v : Value} {K : Act → Prop} (ho : ops[k]? = some o) (hw : Region.wanted o (yielded ops a.tmps) = true) (hr : ∀ w, S w → (execOp a.eval o).run P w = .ok (.value v) w) (h : wpLateT P ops S K qs (a.put o.dst v)) : wpLateT P ops S K (k :: qs) a :=
  ⟨o, ho, v, .inl ⟨hw, hr⟩, h⟩
/-- one step of the forced order, by its run -/
theorem wpOp_run {k : Nat} {o : Oper} {v : Value} {a : Act} {w w' : World} {K : Act → World → Prop} (ho : ops[k]? = some o) (hw : Region.wanted o (yielded ops a.tmps) = true) (hr : (execOp a.eval o).run P w = .ok (.value v) w') (h : K (a.put o.dst v) w') : wpOp P ops Q k K a w := by
  unfold wpOp
  simp only [ho, hw, if_true]
  left
  unfold Oper.wp
  rw [hr]
  exact h
theorem wpOp_skip {k : Nat} {o : Oper} {a : Act} {w w' : World} {K : Act → World → Prop} (ho : ops[k]? = some o) (hw : Region.wanted o (yielded ops a.tmps) = true) (hr : (execOp a.eval o).run P w = .ok .skip w') (h : K (a.put o.dst undef) w') : wpOp P ops Q k K a w := by
  unfold wpOp
  simp only [ho, hw, if_true]
  left
  unfold Oper.wp
  rw [hr]
  exact h
theorem wpMainT_run {k : Nat} {rest : List Nat} {o : Oper} {v : Value} {a : Act} {w w' : World} (ho : ops[k]? = some o) (hw : Region.wanted o (yielded ops a.tmps) = true) (hr : (execOp a.eval o).run P w = .ok (.value v) w') (hS : k = D ∨ S w') (h : wpMainT P ops Q S D rest (a.put o.dst v) w') : wpMainT P ops Q S D (k :: rest) a w :=
  wpOp_run ho hw hr ⟨hS, h⟩
theorem wpMainT_skip {k : Nat} {rest : List Nat} {o : Oper} {a : Act} {w w' : World} (ho : ops[k]? = some o) (hw : Region.wanted o (yielded ops a.tmps) = true) (hr : (execOp a.eval o).run P w = .ok .skip w') (hS : k = D ∨ S w') (h : wpMainT P ops Q S D rest (a.put o.dst undef) w') : wpMainT P ops Q S D (k :: rest) a w :=
  wpOp_skip ho hw hr ⟨hS, h⟩
theorem wpMainT_append {k : Nat} {rest : List Nat} {o : Oper} {a : Act} {w : World} (hk : ops[k]? = some o) (hgd : o.guard = none) (s x : Operand) (t1 t2 : TypeId)
    (ho : o.op = .call { callee := .builtin .append, args := #[s, x], argTypes := #[t1, t2] }) {v u v' : Value} {w' : World} (hs : a.eval s = v) (hx : a.eval x = u)
    (hr : (Builtin.append_ #[t1, t2] o.type #[v, u]).run P w = .ok v' w') (hS : k = D ∨ S w') (h : wpMainT P ops Q S D rest (a.put o.dst v') w') : wpMainT P ops Q S D (k :: rest) a w := by
  have hw : Region.wanted o (yielded ops a.tmps) = true := by simp [Region.wanted, hgd]
  refine wpOp_run hk hw ?_ ⟨hS, h⟩
  unfold execOp
  simp only [ho, resolve, invoke, builtin, Sem.run_bind, Sem.run_pure, Result.andThen_ok, List.map_toArray, List.map_cons, List.map_nil, hs, hx, hr]
theorem wpMainT_nil {a : Act} {w : World} (h : Q .normal a w) : wpMainT P ops (NoPanic Q) S D [] a w := NoPanic.normal h
end
end Go.Proofs.YtefkklgelmbaiaaDoor.Reg
