/- Small lemmas for the walks over leaves: a block of six cells written whole; a row of names that a callee made. No conditions. -/
import Derived.Test.YtlnaeppbhjmocaaDoorR2
set_option linter.unusedSimpArgs false
set_option linter.unusedVariables false
namespace Go.Proofs.YtlnaeppbhjmocaaDoor
open Go.RowKit Go.Proofs Go.Proofs.YtlnaeppbhjmocaaDoorW.PrintWords Go.Proofs.YtlnaeppbhjmocaaDoorW.PrintMore

theorem make_zeros (n : Nat) (hn : n ≤ 16777216) (B : Nat) (w : World) (hB : B ≤ w.heap.size) : ∃ w', (Instr.makeSlice 22 (.int .i64 (n : Int)) (.int .i64 (n : Int))).run Tryd.prog w = .ok (.slice (some ⟨w.heap.size, 0, none⟩) n n) w' ∧ OwnB w' B (.slice (some ⟨w.heap.size, 0, none⟩) n n) (List.replicate n 0) ∧ w.grownBy w' none := by
  obtain ⟨i, hi, hz, hs, hb⟩ := info_byte
  obtain ⟨w', h1, h2, h3⟩ := run_make_full (P := Tryd.prog) w B 22 5 i (.int .u8 0) 1 Tryd.underlying22 hi hz hs .i64 .i64 n (by rw [hb]; omega) (by unfold maxLen; omega) hB
  refine ⟨w', h1, ?_, h3⟩
  unfold OwnB
  rw [List.length_replicate, List.map_replicate]
  have : (madeCells (Value.int .u8 0).cells (n * 1)).toList = List.replicate n (Value.int .u8 0) := by rw [Nat.mul_one]; exact toList_madeCells_one _ _
  rw [this] at h2
  exact h2

theorem rx_ne {w : World} {g : Nat} {A : Option Addr} {c : Nat} {L : List Int} {o : Er} {told : Int} {dry : Bool} (h : RX w g A c L o told dry) {base size n : Nat} {e : TypeId} {v : Value} {xs : List Value} (O : w.ownsRow base e size v n xs) (he : e ≠ 58) : some g ≠ v.ownBlock := by
  obtain ⟨_, _, _, _, hb⟩ := h
  exact own_ne3 O hb he
theorem rx_cells {w : World} {g : Nat} {A : Option Addr} {c : Nat} {L : List Int} {o : Er} {told : Int} {dry : Bool} (h : RX w g A c L o told dry) : w.cell? ⟨g, 2, none⟩ = some (.int .i64 o.num) ∧ w.cell? ⟨g, 4, none⟩ = some (.bool dry) := by
  obtain ⟨_, _, _, _, hb⟩ := h
  exact ⟨(blk5 hb).2.2.1, (blk5 hb).2.2.2.2⟩
theorem rx_err {w : World} {g : Nat} {A : Option Addr} {c : Nat} {L : List Int} {e : Int} {told : Int} {dry : Bool} (h : RX w g A c L (.error e) told dry) : e ≠ 0 := by
  obtain ⟨_, _, _, h3, _⟩ := h
  exact h3 e rfl
/-- fail where nothing was wrong -/
theorem failRow (g : Nat) (A : Option Addr) (c : Nat) (L : List Int) (j : Nat) (told : Int) (dry : Bool) (code : Int) (hc : code ≠ 0) (w : World) (H : RX w g A c L (.ok j) told dry) :
    Calls Tryd.prog 53 #[.pointer (some ⟨g, 0, none⟩), .int .i64 code] w fun x w' => x = .returned (.tuple #[]) ∧ w.grownBy w' (some g) ∧ RX w' g A c L (.error code) told dry := by
  obtain ⟨i, hi, hoi, hoe, HB⟩ := H
  refine (fail_go g A c L i 0 told dry code w HB).mono ?_
  rintro x w' ⟨rfl, gr, HR⟩
  rw [if_pos rfl] at HR
  exact ⟨rfl, gr, i, hi, fun j e => (by cases e), fun e h => (by injection h with h; omega), HR⟩
theorem wpList_append_run {P : Program} {ops : Array Oper} {rest : List Oper} {o : Oper} {a : Act} {Q : Exit → Act → World → Prop} {w : World} (hgd : o.guard = none) (s x : Operand) (t1 t2 : TypeId)
    (ho : o.op = .call { callee := .builtin .append, args := #[s, x], argTypes := #[t1, t2] }) {v u v' : Value} {w' : World} (hs : a.eval s = v) (hx : a.eval x = u)
    (hr : (Builtin.append_ #[t1, t2] o.type #[v, u]).run P w = .ok v' w') (h : wpList P ops Q rest (a.put o.dst v') w') : wpList P ops Q (o :: rest) a w := by
  refine wpList_plain hgd fun K hK => ?_
  unfold Oper.wp execOp
  simp only [ho, resolve, invoke, builtin, Sem.run_bind, Sem.run_pure, Result.andThen_ok, List.map_toArray, List.map_cons, List.map_nil, hs, hx, hr]
  exact hK _ _ h

set_option maxHeartbeats 25600000 in
set_option maxRecDepth 100000 in
theorem data_go (Q : Ending → World → Prop) (g gb ob c : Nat) (L : List Int) (o : Er) (told : Int) (dry : Bool) (w : World) (hw : Ok w) (H : RX w g (some ⟨gb, ob, none⟩) c L o told dry) (hA : BytesAt w (some ⟨gb, ob, none⟩) L) (hgb : gb ≠ g) (hb : bytesOk L) (hc : L.length ≤ c) (hL : L.length ≤ 1073741824) (hg : 4 ≤ g)
    (HP : Hid (∀ w' v told', w.grownBy w' (some g) → RX w' g (some ⟨gb, ob, none⟩) c L (dataR L dry (numX L 4 0 16777216 o).1 (numX L 4 0 16777216 o).2).2 told' dry → OwnB w' w.heap.size v (dataR L dry (numX L 4 0 16777216 o).1 (numX L 4 0 16777216 o).2).1 → Q (.returned v) w')) :
    Calls Tryd.prog 54 #[.pointer (some ⟨g, 0, none⟩)] w Q := by
  have hnr := numX_rg (L := L) (low := 0) (high := 16777216) (.inl (by omega)) (by omega) 4 o hb
  obtain ⟨⟨n, on⟩, e1⟩ : ∃ p, numX L 4 0 16777216 o = p := ⟨_, rfl⟩
  rw [e1] at hnr HP
  dsimp only at hnr HP
  obtain ⟨PP, hPP⟩ : ∃ P, dataR L dry n on = P := ⟨_, rfl⟩
  rw [hPP] at HP
  unfold dataR at hPP
  have HPP := Lib.hid hPP
  have HBy := Lib.hid hb
  have hgS : ∀ a, ((some ⟨gb, ob, none⟩) : Option Addr) = some a → some a.block ≠ some g := fun a e k => by injection e with e; subst e; injection k with k; exact hgb k
  have gr := grown_refl w (some g)
  have HR := H
  have hNu := Lib.hid (fun (W : World) (gr : w.grownBy W (some g)) o told HR s lo hi h1 h2 => numRow g gb ob c L o s lo hi told dry W (hw.grown hg gr) HR (hA.grown gr hgS) hgb hb h1 h2 hc hL hg)
  have hTk := Lib.hid (fun (W : World) (gr : w.grownBy W (some g)) o told HR k h1 => takeRow g gb ob c L o k told dry W (hw.grown hg gr) HR (hA.grown gr hgS) hgb h1 hc hL hg)
  have hFi := Lib.hid (fun (W : World) (gr : w.grownBy W (some g)) A c b x1 x2 hA hc hL => filled_any A c b x1 x2 W (hw.grown hg gr) hA hc hL)
  have hok := Lib.hid (fun (W : World) (gr : w.grownBy W (some g)) => hw.grown hg gr)
  obtain ⟨iy, hiy, hzy, hsy, hyy⟩ := info_byte
  have E1 := Lib.hid e1
  have x1 : IntKind.i64.wrap n = n := IntWalk.i64_in _ ⟨by omega, by omega⟩
  clear e1 hPP hA hc hb H
  go_enter Tryd.func54, Tryd.ntmps54
  go_upto_block 0 with (go_at_call 32; (have ct := hNu.out _ gr _ _ HR 4 0 16777216 (by omega) (by omega)); rw [E1.out] at ct; refine ct.mono ?_; clear ct; rintro e wa ⟨rfl, q, HRa⟩; replace gr := grown_trans gr q; clear q HR; obtain ⟨i0, hi0, hj0, he0, HB0⟩ := HRa; unfold RXB at HB0; obtain ⟨c0, c1, c2, c3, c4⟩ := blk5 HB0; have z3 := unfroz HB0 3; obtain ⟨wb, hwb, HB1, q⟩ := set_grown HB0 3 (.int .i64 (wrap64 (told + n))); simp only [List.setIfInBounds_toArray, List.set_cons_zero, List.set_cons_succ] at HB1; replace gr := grown_trans gr q; (have HR : RX wb g (some ⟨gb, ob, none⟩) c L on (wrap64 (told + n)) dry := ⟨i0, hi0, hj0, he0, HB1⟩); clear q HB0 HB1 hi0 hj0 he0)
  clear c0 c1 c2 c3 c4 z3 hwb x1
  obtain ⟨tld, htld⟩ : ∃ t, wrap64 (told + n) = t := ⟨_, rfl⟩
  rw [htld] at HR
  clear htld
  go_wp2_with fail
  go_loopg [4, 5, 6] (n.toNat + 1) (fun k v4 v5 v6 wc => ∃ (tl : Int) (out : List Int) (a : Option Addr) (d : Nat) (last : Int) (oi : Er), Hid (dataX L dry n k tl out last oi = PP) ∧ (n - tl).toNat < k ∧ 0 ≤ tl ∧ tl ≤ n ∧ (out.length : Int) ≤ tl ∧ v4 = .slice a out.length d ∧ v5 = .int .i64 last ∧ v6 = .int .i64 tl ∧ -1 ≤ last ∧ last ≤ 1 ∧
    Hid (w.grownBy wc (some g)) ∧ Hid (RX wc g (some ⟨gb, ob, none⟩) c L oi tld dry) ∧ Hid (OwnB wc w.heap.size (.slice a out.length d) out))
  case atStart => exact ⟨0, [], none, 0, -1, on, HPP, by omega, by omega, by omega, by simp, rfl, rfl, rfl, by omega, by omega, Lib.hid gr, Lib.hid HR, Lib.hid (OwnB.nil _ _)⟩
  case round =>
    clear gr HR
    obtain ⟨tl, out, a, d, last, oi, HD, hfu, ht0, htn, hot, rfl, rfl, rfl, hl0, hl1, gr, HR, O⟩ := hrel
    replace gr := gr.out
    replace HR := HR.out
    replace O := O.out
    cases gk with
    | zero => exact absurd hfu (by omega)
    | succ k =>
      by_cases hend : n ≤ tl ∨ ∃ e, oi = .error e
      · have hPo : PP = (out, oi) := by
          have h := HD.out
          cases oi with
          | error e => rw [dataX_error] at h; exact h.symm
          | ok i =>
            simp only [dataX] at h
            rw [if_neg (by rcases hend with h1 | ⟨e, h1⟩; omega; cases h1)] at h
            exact h.symm
        have HPo := Lib.hid hPo
        have HF := Lib.hid (And.intro gr (And.intro HR O))
        have hcc := (rx_cells HR).1
        clear hPo gr O HD
        rcases hend with h1 | ⟨e, h1⟩
        · have d1 : decide (tl < n) = false := decide_eq_false (by omega)
          clear HR hcc h1
          go_wp2
          show Q (.returned (.slice a out.length d)) _
          have h := HPo.out
          subst h
          exact HP.out _ _ _ HF.out.1 HF.out.2.1 HF.out.2.2
        · subst h1
          have he := rx_err HR
          have d2 : ((e : Int) == 0) = false := by simpa using he
          simp only [Er.num] at hcc
          clear HR he
          by_cases h2 : tl < n
          · have d1 : decide (tl < n) = true := decide_eq_true h2
            clear h2
            go_wp2
            show Q (.returned (.slice a out.length d)) _
            have h := HPo.out
            subst h
            exact HP.out _ _ _ HF.out.1 HF.out.2.1 HF.out.2.2
          · have d1 : decide (tl < n) = false := decide_eq_false h2
            clear h2
            go_wp2
            show Q (.returned (.slice a out.length d)) _
            have h := HPo.out
            subst h
            exact HP.out _ _ _ HF.out.1 HF.out.2.1 HF.out.2.2
      · obtain ⟨i, rfl⟩ : ∃ i, oi = .ok i := by cases oi with
          | error e => exact absurd (.inr ⟨e, rfl⟩) hend
          | ok i => exact ⟨i, rfl⟩
        have htl : tl < n := by
          by_cases h : tl < n
          · exact h
          · exact absurd (.inl (by omega)) hend
        clear hend
        have har := numX_rg (L := L) (low := 0) (high := 1) (.inl (by omega)) (by omega) 1 (.ok i) HBy.out
        obtain ⟨⟨av, a1⟩, b1⟩ : ∃ p, numX L 1 0 1 (.ok i) = p := ⟨_, rfl⟩
        rw [b1] at har
        dsimp only at har
        obtain ⟨a2, b2⟩ : ∃ p, orFail a1 (decide (av = last)) = p := ⟨_, rfl⟩
        obtain ⟨low, blo⟩ : ∃ p : Int, (if av = 0 then 16 else 1) = p := ⟨_, rfl⟩
        have hkr := numX_rg (L := L) (low := low) (high := n - tl) (.inr trivial) (by omega) 4 a2 HBy.out
        obtain ⟨⟨kv, k1⟩, b3⟩ : ∃ p, numX L 4 low (n - tl) a2 = p := ⟨_, rfl⟩
        rw [b3] at hkr
        dsimp only at hkr
        have hlow : 1 ≤ low ∧ low ≤ 16 := by rw [← blo]; split <;> omega
        have HDD := HD.out
        simp only [dataX, if_pos htl, b1] at HDD
        rw [b2, blo, b3] at HDD
        have HD2 := Lib.hid HDD
        have HB1 := Lib.hid b1
        have HB2 := Lib.hid b2
        have HB3 := Lib.hid b3
        have HBl := Lib.hid blo
        clear b1 b2 b3 blo HDD HD
        have d1 : decide (tl < n) = true := decide_eq_true htl
        have w1 : IntKind.i64.wrap av = av := IntWalk.i64_in _ ⟨by omega, by omega⟩
        have w2 : IntKind.u64.wrap (n - tl) = n - tl := u64_in ⟨by omega, by omega⟩
        have w3 : IntKind.i64.wrap kv = kv := IntWalk.i64_in _ ⟨by omega, by omega⟩
        have q2 := (rx_cells HR).1
        simp only [Er.num] at q2
        have tok0 : True := trivial
        have hA2 : (∃ e1, a1 = .error e1 ∧ a2 = .error e1) ∨ (∃ j, a1 = .ok j ∧ av = last ∧ a2 = .error 191) ∨ (∃ j, a1 = .ok j ∧ av ≠ last ∧ a2 = .ok j) := by
          have h := HB2.out
          cases a1 with
          | error e1 => exact .inl ⟨e1, rfl, h.symm⟩
          | ok j =>
            by_cases hv : av = last
            · exact .inr (.inl ⟨j, rfl, hv, by simp only [orFail, decide_eq_true hv, if_true] at h; exact h.symm⟩)
            · exact .inr (.inr ⟨j, rfl, hv, by simp only [orFail, decide_eq_false hv] at h; exact h.symm⟩)
        clear HB2
        rcases k1 with e | j2
        · have HPo : Hid (PP = ([], .error e)) := Lib.hid HD2.out.symm
          clear HD2
          by_cases hav : av = 0
          · have hl9 : low = 16 := by have h := HBl.out; rw [if_pos hav] at h; exact h.symm
            subst hl9
            have d4 : ((av : Int) == 0) = true := by simpa using hav
            clear HBl hav
            rcases hA2 with ⟨e1, rfl, rfl⟩ | ⟨j, rfl, hv, rfl⟩ | ⟨j, rfl, hv, rfl⟩
            · skip
              go_wp2_with (first
                | (go_at_call 32; have _t := tok0; (have ct := hNu.out _ gr _ _ HR 1 0 1 (by omega) (by omega)); rw [HB1.out] at ct; refine ct.mono ?_; clear ct; rintro e9 wa ⟨rfl, q, HRa⟩; (have O1 := own_keep O q (fun k hk e => by subst e; exact rx_ne HR O (by decide) hk.symm)); clear O; have O := O1; clear O1; replace gr := grown_trans gr q; clear q HR tok0; have HR := HRa; clear HRa; have p2 := (rx_cells HR).1; simp only [Er.num] at p2; have he1 := rx_err HR; (have d6 : ((e1 : Int) == 0) = false := by simpa using he1); clear he1; have tok1 : True := trivial)
                | (go_at_call 32; have _t := tok1; (have ct := hNu.out _ gr _ _ HR 4 16 (n - tl) (by omega) (by omega)); rw [HB3.out] at ct; refine ct.mono ?_; clear ct; rintro e3 wd ⟨rfl, q, HRa⟩; (have O1 := own_keep O q (fun k hk e => by subst e; exact rx_ne HR O (by decide) hk.symm)); clear O; have O := O1; clear O1; replace gr := grown_trans gr q; clear q HR tok1 p2; have HR := HRa; clear HRa; have he := rx_err HR; (have d7 : ((e : Int) != 0) = true := by simpa using he); clear he; have p2 := (rx_cells HR).1; simp only [Er.num] at p2; (have HF := Lib.hid (And.intro gr HR))))
              show Q (.returned (.slice none 0 0)) _
              have h := HPo.out
              subst h
              exact HP.out _ _ _ HF.out.1 HF.out.2 (OwnB.nil _ _)
            · have d5 : ((av : Int) == last) = true := by simpa using hv
              clear hv
              go_wp2_with (first
                | (go_at_call 32; have _t := tok0; (have ct := hNu.out _ gr _ _ HR 1 0 1 (by omega) (by omega)); rw [HB1.out] at ct; refine ct.mono ?_; clear ct; rintro e1 wa ⟨rfl, q, HRa⟩; (have O1 := own_keep O q (fun k hk e => by subst e; exact rx_ne HR O (by decide) hk.symm)); clear O; have O := O1; clear O1; replace gr := grown_trans gr q; clear q HR tok0; have HR := HRa; clear HRa; have p2 := (rx_cells HR).1; simp only [Er.num] at p2; have tok1 : True := trivial)
                | (go_at_call 53; refine (failRow g _ c L j tld dry 191 (by omega) _ HR).mono ?_; rintro e2 wb ⟨rfl, q, HRa⟩; (have O1 := own_keep O q (fun k hk e => by subst e; exact rx_ne HR O (by decide) hk.symm)); clear O; have O := O1; clear O1; replace gr := grown_trans gr q; clear q HR p2; have HR := HRa; clear HRa; have p2 := (rx_cells HR).1; simp only [Er.num] at p2)
                | (go_at_call 32; have _t := tok1; (have ct := hNu.out _ gr _ _ HR 4 16 (n - tl) (by omega) (by omega)); rw [HB3.out] at ct; refine ct.mono ?_; clear ct; rintro e3 wd ⟨rfl, q, HRa⟩; (have O1 := own_keep O q (fun k hk e => by subst e; exact rx_ne HR O (by decide) hk.symm)); clear O; have O := O1; clear O1; replace gr := grown_trans gr q; clear q HR tok1 p2; have HR := HRa; clear HRa; have he := rx_err HR; (have d7 : ((e : Int) != 0) = true := by simpa using he); clear he; have p2 := (rx_cells HR).1; simp only [Er.num] at p2; (have HF := Lib.hid (And.intro gr HR))))
              show Q (.returned (.slice none 0 0)) _
              have h := HPo.out
              subst h
              exact HP.out _ _ _ HF.out.1 HF.out.2 (OwnB.nil _ _)
            · have d5 : ((av : Int) == last) = false := by simpa using hv
              clear hv
              go_wp2_with (first
                | (go_at_call 32; have _t := tok0; (have ct := hNu.out _ gr _ _ HR 1 0 1 (by omega) (by omega)); rw [HB1.out] at ct; refine ct.mono ?_; clear ct; rintro e1 wa ⟨rfl, q, HRa⟩; (have O1 := own_keep O q (fun k hk e => by subst e; exact rx_ne HR O (by decide) hk.symm)); clear O; have O := O1; clear O1; replace gr := grown_trans gr q; clear q HR tok0; have HR := HRa; clear HRa; have p2 := (rx_cells HR).1; simp only [Er.num] at p2; have tok1 : True := trivial)
                | (go_at_call 32; have _t := tok1; (have ct := hNu.out _ gr _ _ HR 4 16 (n - tl) (by omega) (by omega)); rw [HB3.out] at ct; refine ct.mono ?_; clear ct; rintro e3 wd ⟨rfl, q, HRa⟩; (have O1 := own_keep O q (fun k hk e => by subst e; exact rx_ne HR O (by decide) hk.symm)); clear O; have O := O1; clear O1; replace gr := grown_trans gr q; clear q HR tok1 p2; have HR := HRa; clear HRa; have he := rx_err HR; (have d7 : ((e : Int) != 0) = true := by simpa using he); clear he; have p2 := (rx_cells HR).1; simp only [Er.num] at p2; (have HF := Lib.hid (And.intro gr HR))))
              show Q (.returned (.slice none 0 0)) _
              have h := HPo.out
              subst h
              exact HP.out _ _ _ HF.out.1 HF.out.2 (OwnB.nil _ _)
          · have hl9 : low = 1 := by have h := HBl.out; rw [if_neg hav] at h; exact h.symm
            subst hl9
            have d4 : ((av : Int) == 0) = false := by simpa using hav
            clear HBl hav
            rcases hA2 with ⟨e1, rfl, rfl⟩ | ⟨j, rfl, hv, rfl⟩ | ⟨j, rfl, hv, rfl⟩
            · skip
              go_wp2_with (first
                | (go_at_call 32; have _t := tok0; (have ct := hNu.out _ gr _ _ HR 1 0 1 (by omega) (by omega)); rw [HB1.out] at ct; refine ct.mono ?_; clear ct; rintro e9 wa ⟨rfl, q, HRa⟩; (have O1 := own_keep O q (fun k hk e => by subst e; exact rx_ne HR O (by decide) hk.symm)); clear O; have O := O1; clear O1; replace gr := grown_trans gr q; clear q HR tok0; have HR := HRa; clear HRa; have p2 := (rx_cells HR).1; simp only [Er.num] at p2; have he1 := rx_err HR; (have d6 : ((e1 : Int) == 0) = false := by simpa using he1); clear he1; have tok1 : True := trivial)
                | (go_at_call 32; have _t := tok1; (have ct := hNu.out _ gr _ _ HR 4 1 (n - tl) (by omega) (by omega)); rw [HB3.out] at ct; refine ct.mono ?_; clear ct; rintro e3 wd ⟨rfl, q, HRa⟩; (have O1 := own_keep O q (fun k hk e => by subst e; exact rx_ne HR O (by decide) hk.symm)); clear O; have O := O1; clear O1; replace gr := grown_trans gr q; clear q HR tok1 p2; have HR := HRa; clear HRa; have he := rx_err HR; (have d7 : ((e : Int) != 0) = true := by simpa using he); clear he; have p2 := (rx_cells HR).1; simp only [Er.num] at p2; (have HF := Lib.hid (And.intro gr HR))))
              show Q (.returned (.slice none 0 0)) _
              have h := HPo.out
              subst h
              exact HP.out _ _ _ HF.out.1 HF.out.2 (OwnB.nil _ _)
            · have d5 : ((av : Int) == last) = true := by simpa using hv
              clear hv
              go_wp2_with (first
                | (go_at_call 32; have _t := tok0; (have ct := hNu.out _ gr _ _ HR 1 0 1 (by omega) (by omega)); rw [HB1.out] at ct; refine ct.mono ?_; clear ct; rintro e1 wa ⟨rfl, q, HRa⟩; (have O1 := own_keep O q (fun k hk e => by subst e; exact rx_ne HR O (by decide) hk.symm)); clear O; have O := O1; clear O1; replace gr := grown_trans gr q; clear q HR tok0; have HR := HRa; clear HRa; have p2 := (rx_cells HR).1; simp only [Er.num] at p2; have tok1 : True := trivial)
                | (go_at_call 53; refine (failRow g _ c L j tld dry 191 (by omega) _ HR).mono ?_; rintro e2 wb ⟨rfl, q, HRa⟩; (have O1 := own_keep O q (fun k hk e => by subst e; exact rx_ne HR O (by decide) hk.symm)); clear O; have O := O1; clear O1; replace gr := grown_trans gr q; clear q HR p2; have HR := HRa; clear HRa; have p2 := (rx_cells HR).1; simp only [Er.num] at p2)
                | (go_at_call 32; have _t := tok1; (have ct := hNu.out _ gr _ _ HR 4 1 (n - tl) (by omega) (by omega)); rw [HB3.out] at ct; refine ct.mono ?_; clear ct; rintro e3 wd ⟨rfl, q, HRa⟩; (have O1 := own_keep O q (fun k hk e => by subst e; exact rx_ne HR O (by decide) hk.symm)); clear O; have O := O1; clear O1; replace gr := grown_trans gr q; clear q HR tok1 p2; have HR := HRa; clear HRa; have he := rx_err HR; (have d7 : ((e : Int) != 0) = true := by simpa using he); clear he; have p2 := (rx_cells HR).1; simp only [Er.num] at p2; (have HF := Lib.hid (And.intro gr HR))))
              show Q (.returned (.slice none 0 0)) _
              have h := HPo.out
              subst h
              exact HP.out _ _ _ HF.out.1 HF.out.2 (OwnB.nil _ _)
            · have d5 : ((av : Int) == last) = false := by simpa using hv
              clear hv
              go_wp2_with (first
                | (go_at_call 32; have _t := tok0; (have ct := hNu.out _ gr _ _ HR 1 0 1 (by omega) (by omega)); rw [HB1.out] at ct; refine ct.mono ?_; clear ct; rintro e1 wa ⟨rfl, q, HRa⟩; (have O1 := own_keep O q (fun k hk e => by subst e; exact rx_ne HR O (by decide) hk.symm)); clear O; have O := O1; clear O1; replace gr := grown_trans gr q; clear q HR tok0; have HR := HRa; clear HRa; have p2 := (rx_cells HR).1; simp only [Er.num] at p2; have tok1 : True := trivial)
                | (go_at_call 32; have _t := tok1; (have ct := hNu.out _ gr _ _ HR 4 1 (n - tl) (by omega) (by omega)); rw [HB3.out] at ct; refine ct.mono ?_; clear ct; rintro e3 wd ⟨rfl, q, HRa⟩; (have O1 := own_keep O q (fun k hk e => by subst e; exact rx_ne HR O (by decide) hk.symm)); clear O; have O := O1; clear O1; replace gr := grown_trans gr q; clear q HR tok1 p2; have HR := HRa; clear HRa; have he := rx_err HR; (have d7 : ((e : Int) != 0) = true := by simpa using he); clear he; have p2 := (rx_cells HR).1; simp only [Er.num] at p2; (have HF := Lib.hid (And.intro gr HR))))
              show Q (.returned (.slice none 0 0)) _
              have h := HPo.out
              subst h
              exact HP.out _ _ _ HF.out.1 HF.out.2 (OwnB.nil _ _)
        · have hj2 := numX_low HB3.out
          have ha2 : ∃ j, a1 = .ok j ∧ av ≠ last ∧ a2 = .ok j := by
            rcases hA2 with ⟨e1, _, h⟩ | ⟨j, _, _, h⟩ | h
            · have h3 := HB3.out; rw [h, numX_error] at h3; simp at h3
            · have h3 := HB3.out; rw [h, numX_error] at h3; simp at h3
            · exact h
          clear hA2
          obtain ⟨j, rfl, hv, rfl⟩ := ha2
          have d5 : ((av : Int) == last) = false := by simpa using hv
          clear hv
          obtain ⟨kn, hkn⟩ : ∃ kn : Nat, kv = (kn : Int) := ⟨_, (Int.toNat_of_nonneg hkr.1).symm⟩
          subst hkn
          have hHD := HD2.out
          simp only [Int.toNat_natCast] at hHD
          clear HD2
          by_cases hav : av = 0
          · have hl9 : low = 16 := by have h := HBl.out; rw [if_pos hav] at h; exact h.symm
            subst hl9
            subst hav
            clear HBl
            rw [if_neg (by omega)] at hHD
            obtain ⟨zs, hzs⟩ : ∃ zs, List.replicate kn (0 : Int) = zs := ⟨_, rfl⟩
            have hzl : zs.length = kn := by rw [← hzs]; simp
            rw [hzs] at hHD
            have HZS := Lib.hid hzs
            clear hzs
            cases dry with
            | true =>
              have HD3 := Lib.hid hHD
              have HD3 : Hid (dataX L true n k (tl + (kn : Int)) out 0 (.ok j2) = PP) := Lib.hid (by simpa using hHD)
              clear hHD
              go_wp2_with (first
                | (go_at_call 32; have _t := tok0; (have ct := hNu.out _ gr _ _ HR 1 0 1 (by omega) (by omega)); rw [HB1.out] at ct; refine ct.mono ?_; clear ct; rintro e1 wa ⟨rfl, q, HRa⟩; (have O1 := own_keep O q (fun k hk e => by subst e; exact rx_ne HR O (by decide) hk.symm)); clear O; have O := O1; clear O1; replace gr := grown_trans gr q; clear q HR tok0; have HR := HRa; clear HRa; have p2 := (rx_cells HR).1; simp only [Er.num] at p2; have tok1 : True := trivial)
                | (go_at_call 32; have _t := tok1; (have ct := hNu.out _ gr _ _ HR 4 16 (n - tl) (by omega) (by omega)); rw [HB3.out] at ct; refine ct.mono ?_; clear ct; rintro e3 wd ⟨rfl, q, HRa⟩; (have O1 := own_keep O q (fun k hk e => by subst e; exact rx_ne HR O (by decide) hk.symm)); clear O; have O := O1; clear O1; replace gr := grown_trans gr q; clear q HR; have HR := HRa; clear HRa; clear tok1 p2; have p2 := (rx_cells HR).1; have p4 := (rx_cells HR).2; simp only [Er.num] at p2; obtain ⟨gm, hgm⟩ : ∃ gm, wd.heap.size = gm := ⟨_, rfl⟩; obtain ⟨wm, hm0, Om, qm⟩ := make_zeros 0 (by omega) w.heap.size wd gr.size; rw [hgm] at hm0; (have hm0' : (Instr.makeSlice 22 (.int .i64 0) (.int .i64 0)).run Tryd.prog wd = .ok (.slice (some ⟨gm, 0, none⟩) 0 0) wm := hm0); clear hm0 Om; (have O1 := World.ownsRow.kept O qm (by cases (Value.slice a out.length d).ownBlock <;> simp)); clear O; (have O : OwnB wm w.heap.size (.slice a out.length d) out := O1); clear O1; replace HR := HR.grown qm (by simp); replace gr := grown_own gr qm (fun i h => by cases h); clear qm; have p2' := (rx_cells HR).1; have p4' := (rx_cells HR).2; simp only [Er.num] at p2'))
              go_roundg k
              case measure => omega
              case rel => exact ⟨tl + (kn : Int), out, a, d, 0, .ok j2, HD3, by omega, by omega, by omega, by omega, rfl, rfl, rfl, by omega, by omega, Lib.hid gr, Lib.hid HR, Lib.hid O⟩
            | false =>
              have HD3 := Lib.hid hHD
              have HD3 : Hid (dataX L false n k (tl + (kn : Int)) (out ++ zs) 0 (.ok j2) = PP) := Lib.hid (by simpa using hHD)
              clear hHD
              go_wp2_with (first
                | (go_at_call 32; have _t := tok0; (have ct := hNu.out _ gr _ _ HR 1 0 1 (by omega) (by omega)); rw [HB1.out] at ct; refine ct.mono ?_; clear ct; rintro e1 wa ⟨rfl, q, HRa⟩; (have O1 := own_keep O q (fun k hk e => by subst e; exact rx_ne HR O (by decide) hk.symm)); clear O; have O := O1; clear O1; replace gr := grown_trans gr q; clear q HR tok0; have HR := HRa; clear HRa; have p2 := (rx_cells HR).1; simp only [Er.num] at p2; have tok1 : True := trivial)
                | (go_at_call 32; have _t := tok1; (have ct := hNu.out _ gr _ _ HR 4 16 (n - tl) (by omega) (by omega)); rw [HB3.out] at ct; refine ct.mono ?_; clear ct; rintro e3 wd ⟨rfl, q, HRa⟩; (have O1 := own_keep O q (fun k hk e => by subst e; exact rx_ne HR O (by decide) hk.symm)); clear O; have O := O1; clear O1; replace gr := grown_trans gr q; clear q HR; have HR := HRa; clear HRa; clear tok1 p2; have p2 := (rx_cells HR).1; have p4 := (rx_cells HR).2; simp only [Er.num] at p2; obtain ⟨gm, hgm⟩ : ∃ gm, wd.heap.size = gm := ⟨_, rfl⟩; obtain ⟨wm, hm0, Om, qm⟩ := make_zeros 0 (by omega) w.heap.size wd gr.size; rw [hgm] at hm0; (have hm0' : (Instr.makeSlice 22 (.int .i64 0) (.int .i64 0)).run Tryd.prog wd = .ok (.slice (some ⟨gm, 0, none⟩) 0 0) wm := hm0); clear hm0 Om; (have O1 := World.ownsRow.kept O qm (by cases (Value.slice a out.length d).ownBlock <;> simp)); clear O; (have O : OwnB wm w.heap.size (.slice a out.length d) out := O1); clear O1; replace HR := HR.grown qm (by simp); replace gr := grown_own gr qm (fun i h => by cases h); clear qm; have p2' := (rx_cells HR).1; have p4' := (rx_cells HR).2; simp only [Er.num] at p2'; obtain ⟨gz, hgz⟩ : ∃ gz, wm.heap.size = gz := ⟨_, rfl⟩; obtain ⟨wz, hmz, Oz, qz⟩ := make_zeros kn (by omega) w.heap.size wm gr.size; rw [hgz] at hmz Oz; rw [HZS.out] at Oz; (have O1 := World.ownsRow.kept O qz (by cases (Value.slice a out.length d).ownBlock <;> simp)); clear O; (have O : OwnB wz w.heap.size (.slice a out.length d) out := O1); clear O1; replace HR := HR.grown qz (by simp); replace gr := grown_own gr qz (fun i h => by cases h); clear qz; have p4'' := (rx_cells HR).2; (have hBz := (OwnB.at Oz).1); obtain ⟨v5, w5, hap, O5, q5, _⟩ := append_src Tryd.underlying22 hiy hzy hsy hyy rfl (by decide) 22 O (some ⟨gz, 0, none⟩) kn kn (zs.map (Value.int .u8)) (by have h := bytes_src (c := kn) hBz (fun e => by cases e); rw [hzl] at h; exact h) (by simp [hzl]) (map_one _) (by unfold maxLen; omega) (by omega) gr.size; have mR := rx_ne HR O (by decide); replace HR := HR.grown q5 mR; replace gr := grown_own gr q5 (fun k hk => (World.ownsRow.lt O k hk).1); clear mR q5 O; obtain ⟨a5, d5', rfl⟩ := own_form O5)
                | (at_builtin; refine wpList_append_run rfl _ _ 22 22 rfl (by simp [Act.eval]) (by simp [Act.eval]) hap ?_))
              go_roundg k
              case measure => omega
              case rel => exact ⟨tl + (kn : Int), out ++ zs, a5, d5', 0, .ok j2, HD3, by omega, by omega, by omega, by rw [List.length_append]; have := hzl; omega, by rw [List.length_append, hzl], rfl, rfl, by omega, by omega, Lib.hid gr, Lib.hid HR, Lib.hid (by unfold OwnB; rw [List.length_append, List.map_append, hzl]; exact O5)⟩
          · have hav1 : av = 1 := by omega
            have hl9 : low = 1 := by have h := HBl.out; rw [if_neg hav] at h; exact h.symm
            subst hl9
            subst hav1
            clear HBl hav
            rw [if_pos rfl] at hHD
            obtain ⟨⟨ts, t2⟩, bt⟩ : ∃ p, takeX L kn (.ok j2) = p := ⟨_, rfl⟩
            have htk := takeX_ok HBy.out kn (.ok j2)
            rw [bt] at hHD htk
            dsimp only at hHD htk
            have htl2 := htk.2.1
            have htl3 := htk.2.2
            have HT := Lib.hid bt
            obtain ⟨lb, hlb⟩ : ∃ b, ((last : Int) == 0) = b := ⟨_, rfl⟩
            obtain ⟨mb, hmb⟩ : ∃ b, decide (tl + (kn : Int) < n) = b := ⟨_, rfl⟩
            rw [show decide (last = 0) = lb from hlb, hmb] at hHD
            obtain ⟨ff, hff⟩ : ∃ b, filledB ts lb mb = b := ⟨_, rfl⟩
            rw [hff] at hHD
            have HFF := Lib.hid hff
            clear hff bt htk
            cases t2 with
            | error et =>
              cases dry with
              | true =>
                have HD3 : Hid (dataX L true n k (tl + (kn : Int)) out 1 (.error et) = PP) := Lib.hid (by simpa [orFail] using hHD)
                clear hHD
                go_wp2_with (first
                  | (go_at_call 32; have _t := tok0; (have ct := hNu.out _ gr _ _ HR 1 0 1 (by omega) (by omega)); rw [HB1.out] at ct; refine ct.mono ?_; clear ct; rintro e1 wa ⟨rfl, q, HRa⟩; (have O1 := own_keep O q (fun k hk e => by subst e; exact rx_ne HR O (by decide) hk.symm)); clear O; have O := O1; clear O1; replace gr := grown_trans gr q; clear q HR tok0; have HR := HRa; clear HRa; have p2 := (rx_cells HR).1; simp only [Er.num] at p2; have tok1 : True := trivial)
                  | (go_at_call 32; have _t := tok1; (have ct := hNu.out _ gr _ _ HR 4 1 (n - tl) (by omega) (by omega)); rw [HB3.out] at ct; refine ct.mono ?_; clear ct; rintro e3 wd ⟨rfl, q, HRa⟩; (have O1 := own_keep O q (fun k hk e => by subst e; exact rx_ne HR O (by decide) hk.symm)); clear O; have O := O1; clear O1; replace gr := grown_trans gr q; clear q HR; have HR := HRa; clear HRa; clear tok1 p2; have p2 := (rx_cells HR).1; have p4 := (rx_cells HR).2; simp only [Er.num] at p2; obtain ⟨gm, hgm⟩ : ∃ gm, wd.heap.size = gm := ⟨_, rfl⟩; obtain ⟨wm, hm0, Om, qm⟩ := make_zeros 0 (by omega) w.heap.size wd gr.size; rw [hgm] at hm0; (have hm0' : (Instr.makeSlice 22 (.int .i64 0) (.int .i64 0)).run Tryd.prog wd = .ok (.slice (some ⟨gm, 0, none⟩) 0 0) wm := hm0); clear hm0 Om; (have O1 := World.ownsRow.kept O qm (by cases (Value.slice a out.length d).ownBlock <;> simp)); clear O; (have O : OwnB wm w.heap.size (.slice a out.length d) out := O1); clear O1; replace HR := HR.grown qm (by simp); replace gr := grown_own gr qm (fun i h => by cases h); clear qm; have p2' := (rx_cells HR).1; have p4' := (rx_cells HR).2; simp only [Er.num] at p2')
                  | (go_at_call 33; (have ct := hTk.out _ gr _ _ HR kn (by omega)); rw [HT.out] at ct; refine ct.mono ?_; clear ct; rintro e4 we ⟨B, d2, rfl, hd2, hBn, hBg, hB, q, HRa⟩; (have O1 := own_keep O q (fun k hk e => by subst e; exact rx_ne HR O (by decide) hk.symm)); clear O; have O := O1; clear O1; replace gr := grown_trans gr q; clear q HR; have HR := HRa; clear HRa; clear p2' p4'; have p2 := (rx_cells HR).1; have p4 := (rx_cells HR).2; simp only [Er.num] at p2; have he := rx_err HR; (have d7 : ((et : Int) == 0) = false := by simpa using he); clear he))
                go_roundg k
                case measure => omega
                case rel => exact ⟨tl + (kn : Int), out, a, d, 1, .error et, HD3, by omega, by omega, by omega, by omega, rfl, rfl, rfl, by omega, by omega, Lib.hid gr, Lib.hid HR, Lib.hid O⟩
              | false =>
                have HD3 : Hid (dataX L false n k (tl + (kn : Int)) (out ++ ts) 1 (.error et) = PP) := Lib.hid (by simpa [orFail] using hHD)
                clear hHD
                go_wp2_with (first
                  | (go_at_call 32; have _t := tok0; (have ct := hNu.out _ gr _ _ HR 1 0 1 (by omega) (by omega)); rw [HB1.out] at ct; refine ct.mono ?_; clear ct; rintro e1 wa ⟨rfl, q, HRa⟩; (have O1 := own_keep O q (fun k hk e => by subst e; exact rx_ne HR O (by decide) hk.symm)); clear O; have O := O1; clear O1; replace gr := grown_trans gr q; clear q HR tok0; have HR := HRa; clear HRa; have p2 := (rx_cells HR).1; simp only [Er.num] at p2; have tok1 : True := trivial)
                  | (go_at_call 32; have _t := tok1; (have ct := hNu.out _ gr _ _ HR 4 1 (n - tl) (by omega) (by omega)); rw [HB3.out] at ct; refine ct.mono ?_; clear ct; rintro e3 wd ⟨rfl, q, HRa⟩; (have O1 := own_keep O q (fun k hk e => by subst e; exact rx_ne HR O (by decide) hk.symm)); clear O; have O := O1; clear O1; replace gr := grown_trans gr q; clear q HR; have HR := HRa; clear HRa; clear tok1 p2; have p2 := (rx_cells HR).1; have p4 := (rx_cells HR).2; simp only [Er.num] at p2; obtain ⟨gm, hgm⟩ : ∃ gm, wd.heap.size = gm := ⟨_, rfl⟩; obtain ⟨wm, hm0, Om, qm⟩ := make_zeros 0 (by omega) w.heap.size wd gr.size; rw [hgm] at hm0; (have hm0' : (Instr.makeSlice 22 (.int .i64 0) (.int .i64 0)).run Tryd.prog wd = .ok (.slice (some ⟨gm, 0, none⟩) 0 0) wm := hm0); clear hm0 Om; (have O1 := World.ownsRow.kept O qm (by cases (Value.slice a out.length d).ownBlock <;> simp)); clear O; (have O : OwnB wm w.heap.size (.slice a out.length d) out := O1); clear O1; replace HR := HR.grown qm (by simp); replace gr := grown_own gr qm (fun i h => by cases h); clear qm; have p2' := (rx_cells HR).1; have p4' := (rx_cells HR).2; simp only [Er.num] at p2')
                  | (go_at_call 33; (have ct := hTk.out _ gr _ _ HR kn (by omega)); rw [HT.out] at ct; refine ct.mono ?_; clear ct; rintro e4 we ⟨B, d2, rfl, hd2, hBn, hBg, hB, q, HRa⟩; (have O1 := own_keep O q (fun k hk e => by subst e; exact rx_ne HR O (by decide) hk.symm)); clear O; have O := O1; clear O1; replace gr := grown_trans gr q; clear q HR; have HR := HRa; clear HRa; clear p2' p4'; have p2 := (rx_cells HR).1; have p4 := (rx_cells HR).2; simp only [Er.num] at p2; have he := rx_err HR; (have d7 : ((et : Int) == 0) = false := by simpa using he); clear he; obtain ⟨v5, w5, hap, O5, q5, _⟩ := append_src Tryd.underlying22 hiy hzy hsy hyy rfl (by decide) 22 O B ts.length d2 (ts.map (Value.int .u8)) (bytes_src hB hBn) (by simp) (map_one _) (by unfold maxLen; omega) (by omega) gr.size; have mR := rx_ne HR O (by decide); replace HR := HR.grown q5 mR; replace gr := grown_own gr q5 (fun k hk => (World.ownsRow.lt O k hk).1); clear mR q5 O; obtain ⟨a5, d5', rfl⟩ := own_form O5)
                  | (at_builtin; refine wpList_append_run rfl _ _ 22 22 rfl (by simp [Act.eval]) (by simp [Act.eval]) hap ?_))
                go_roundg k
                case measure => omega
                case rel => exact ⟨tl + (kn : Int), out ++ ts, a5, d5', 1, .error et, HD3, by omega, by omega, by omega, by rw [List.length_append]; have := htl2; omega, by rw [List.length_append], rfl, rfl, by omega, by omega, Lib.hid gr, Lib.hid HR, Lib.hid (by unfold OwnB; rw [List.length_append, List.map_append]; exact O5)⟩
            | ok j3 =>
              cases ff with
              | true =>
                cases dry with
                | true =>
                  have HD3 : Hid (dataX L true n k (tl + (kn : Int)) out 1 (.ok j3) = PP) := Lib.hid (by simpa [orFail] using hHD)
                  clear hHD
                  go_wp2_with (first
                    | (go_at_call 32; have _t := tok0; (have ct := hNu.out _ gr _ _ HR 1 0 1 (by omega) (by omega)); rw [HB1.out] at ct; refine ct.mono ?_; clear ct; rintro e1 wa ⟨rfl, q, HRa⟩; (have O1 := own_keep O q (fun k hk e => by subst e; exact rx_ne HR O (by decide) hk.symm)); clear O; have O := O1; clear O1; replace gr := grown_trans gr q; clear q HR tok0; have HR := HRa; clear HRa; have p2 := (rx_cells HR).1; simp only [Er.num] at p2; have tok1 : True := trivial)
                    | (go_at_call 32; have _t := tok1; (have ct := hNu.out _ gr _ _ HR 4 1 (n - tl) (by omega) (by omega)); rw [HB3.out] at ct; refine ct.mono ?_; clear ct; rintro e3 wd ⟨rfl, q, HRa⟩; (have O1 := own_keep O q (fun k hk e => by subst e; exact rx_ne HR O (by decide) hk.symm)); clear O; have O := O1; clear O1; replace gr := grown_trans gr q; clear q HR; have HR := HRa; clear HRa; clear tok1 p2; have p2 := (rx_cells HR).1; have p4 := (rx_cells HR).2; simp only [Er.num] at p2; obtain ⟨gm, hgm⟩ : ∃ gm, wd.heap.size = gm := ⟨_, rfl⟩; obtain ⟨wm, hm0, Om, qm⟩ := make_zeros 0 (by omega) w.heap.size wd gr.size; rw [hgm] at hm0; (have hm0' : (Instr.makeSlice 22 (.int .i64 0) (.int .i64 0)).run Tryd.prog wd = .ok (.slice (some ⟨gm, 0, none⟩) 0 0) wm := hm0); clear hm0 Om; (have O1 := World.ownsRow.kept O qm (by cases (Value.slice a out.length d).ownBlock <;> simp)); clear O; (have O : OwnB wm w.heap.size (.slice a out.length d) out := O1); clear O1; replace HR := HR.grown qm (by simp); replace gr := grown_own gr qm (fun i h => by cases h); clear qm; have p2' := (rx_cells HR).1; have p4' := (rx_cells HR).2; simp only [Er.num] at p2')
                    | (go_at_call 33; (have ct := hTk.out _ gr _ _ HR kn (by omega)); rw [HT.out] at ct; refine ct.mono ?_; clear ct; rintro e4 we ⟨B, d2, rfl, hd2, hBn, hBg, hB, q, HRa⟩; (have O1 := own_keep O q (fun k hk e => by subst e; exact rx_ne HR O (by decide) hk.symm)); clear O; have O := O1; clear O1; replace gr := grown_trans gr q; clear q HR; have HR := HRa; clear HRa; clear p2' p4'; have p2 := (rx_cells HR).1; have p4 := (rx_cells HR).2; simp only [Er.num] at p2)
                    | (go_at_call 68; (have ct := hFi.out _ gr B d2 ts lb mb hB hd2 (by omega)); rw [HFF.out] at ct; refine ct.mono ?_; clear ct; rintro e5 wf ⟨rfl, q⟩; (have O1 := own_fr O q); clear O; (have O : OwnB wf w.heap.size (.slice a out.length d) out := O1); clear O1; replace HR := HR.fr q; replace gr := grown_fr gr q; replace hB := hB.fr q; clear q p2 p4; have p2 := (rx_cells HR).1; have p4 := (rx_cells HR).2; simp only [Er.num] at p2))
                  go_roundg k
                  case measure => omega
                  case rel => exact ⟨tl + (kn : Int), out, a, d, 1, .ok j3, HD3, by omega, by omega, by omega, by omega, rfl, rfl, rfl, by omega, by omega, Lib.hid gr, Lib.hid HR, Lib.hid O⟩
                | false =>
                  have HD3 : Hid (dataX L false n k (tl + (kn : Int)) (out ++ ts) 1 (.ok j3) = PP) := Lib.hid (by simpa [orFail] using hHD)
                  clear hHD
                  go_wp2_with (first
                    | (go_at_call 32; have _t := tok0; (have ct := hNu.out _ gr _ _ HR 1 0 1 (by omega) (by omega)); rw [HB1.out] at ct; refine ct.mono ?_; clear ct; rintro e1 wa ⟨rfl, q, HRa⟩; (have O1 := own_keep O q (fun k hk e => by subst e; exact rx_ne HR O (by decide) hk.symm)); clear O; have O := O1; clear O1; replace gr := grown_trans gr q; clear q HR tok0; have HR := HRa; clear HRa; have p2 := (rx_cells HR).1; simp only [Er.num] at p2; have tok1 : True := trivial)
                    | (go_at_call 32; have _t := tok1; (have ct := hNu.out _ gr _ _ HR 4 1 (n - tl) (by omega) (by omega)); rw [HB3.out] at ct; refine ct.mono ?_; clear ct; rintro e3 wd ⟨rfl, q, HRa⟩; (have O1 := own_keep O q (fun k hk e => by subst e; exact rx_ne HR O (by decide) hk.symm)); clear O; have O := O1; clear O1; replace gr := grown_trans gr q; clear q HR; have HR := HRa; clear HRa; clear tok1 p2; have p2 := (rx_cells HR).1; have p4 := (rx_cells HR).2; simp only [Er.num] at p2; obtain ⟨gm, hgm⟩ : ∃ gm, wd.heap.size = gm := ⟨_, rfl⟩; obtain ⟨wm, hm0, Om, qm⟩ := make_zeros 0 (by omega) w.heap.size wd gr.size; rw [hgm] at hm0; (have hm0' : (Instr.makeSlice 22 (.int .i64 0) (.int .i64 0)).run Tryd.prog wd = .ok (.slice (some ⟨gm, 0, none⟩) 0 0) wm := hm0); clear hm0 Om; (have O1 := World.ownsRow.kept O qm (by cases (Value.slice a out.length d).ownBlock <;> simp)); clear O; (have O : OwnB wm w.heap.size (.slice a out.length d) out := O1); clear O1; replace HR := HR.grown qm (by simp); replace gr := grown_own gr qm (fun i h => by cases h); clear qm; have p2' := (rx_cells HR).1; have p4' := (rx_cells HR).2; simp only [Er.num] at p2')
                    | (go_at_call 33; (have ct := hTk.out _ gr _ _ HR kn (by omega)); rw [HT.out] at ct; refine ct.mono ?_; clear ct; rintro e4 we ⟨B, d2, rfl, hd2, hBn, hBg, hB, q, HRa⟩; (have O1 := own_keep O q (fun k hk e => by subst e; exact rx_ne HR O (by decide) hk.symm)); clear O; have O := O1; clear O1; replace gr := grown_trans gr q; clear q HR; have HR := HRa; clear HRa; clear p2' p4'; have p2 := (rx_cells HR).1; have p4 := (rx_cells HR).2; simp only [Er.num] at p2)
                    | (go_at_call 68; (have ct := hFi.out _ gr B d2 ts lb mb hB hd2 (by omega)); rw [HFF.out] at ct; refine ct.mono ?_; clear ct; rintro e5 wf ⟨rfl, q⟩; (have O1 := own_fr O q); clear O; (have O : OwnB wf w.heap.size (.slice a out.length d) out := O1); clear O1; replace HR := HR.fr q; replace gr := grown_fr gr q; replace hB := hB.fr q; clear q p2 p4; have p2 := (rx_cells HR).1; have p4 := (rx_cells HR).2; simp only [Er.num] at p2; obtain ⟨v5, w5, hap, O5, q5, _⟩ := append_src Tryd.underlying22 hiy hzy hsy hyy rfl (by decide) 22 O B ts.length d2 (ts.map (Value.int .u8)) (bytes_src hB hBn) (by simp) (map_one _) (by unfold maxLen; omega) (by omega) gr.size; have mR := rx_ne HR O (by decide); replace HR := HR.grown q5 mR; replace gr := grown_own gr q5 (fun k hk => (World.ownsRow.lt O k hk).1); clear mR q5 O; obtain ⟨a5, d5', rfl⟩ := own_form O5)
                    | (at_builtin; refine wpList_append_run rfl _ _ 22 22 rfl (by simp [Act.eval]) (by simp [Act.eval]) hap ?_))
                  go_roundg k
                  case measure => omega
                  case rel => exact ⟨tl + (kn : Int), out ++ ts, a5, d5', 1, .ok j3, HD3, by omega, by omega, by omega, by rw [List.length_append]; have := htl2; omega, by rw [List.length_append], rfl, rfl, by omega, by omega, Lib.hid gr, Lib.hid HR, Lib.hid (by unfold OwnB; rw [List.length_append, List.map_append]; exact O5)⟩
              | false =>
                cases dry with
                | true =>
                  have HD3 : Hid (dataX L true n k (tl + (kn : Int)) out 1 (.error 191) = PP) := Lib.hid (by simpa [orFail] using hHD)
                  clear hHD
                  go_wp2_with (first
                    | (go_at_call 32; have _t := tok0; (have ct := hNu.out _ gr _ _ HR 1 0 1 (by omega) (by omega)); rw [HB1.out] at ct; refine ct.mono ?_; clear ct; rintro e1 wa ⟨rfl, q, HRa⟩; (have O1 := own_keep O q (fun k hk e => by subst e; exact rx_ne HR O (by decide) hk.symm)); clear O; have O := O1; clear O1; replace gr := grown_trans gr q; clear q HR tok0; have HR := HRa; clear HRa; have p2 := (rx_cells HR).1; simp only [Er.num] at p2; have tok1 : True := trivial)
                    | (go_at_call 32; have _t := tok1; (have ct := hNu.out _ gr _ _ HR 4 1 (n - tl) (by omega) (by omega)); rw [HB3.out] at ct; refine ct.mono ?_; clear ct; rintro e3 wd ⟨rfl, q, HRa⟩; (have O1 := own_keep O q (fun k hk e => by subst e; exact rx_ne HR O (by decide) hk.symm)); clear O; have O := O1; clear O1; replace gr := grown_trans gr q; clear q HR; have HR := HRa; clear HRa; clear tok1 p2; have p2 := (rx_cells HR).1; have p4 := (rx_cells HR).2; simp only [Er.num] at p2; obtain ⟨gm, hgm⟩ : ∃ gm, wd.heap.size = gm := ⟨_, rfl⟩; obtain ⟨wm, hm0, Om, qm⟩ := make_zeros 0 (by omega) w.heap.size wd gr.size; rw [hgm] at hm0; (have hm0' : (Instr.makeSlice 22 (.int .i64 0) (.int .i64 0)).run Tryd.prog wd = .ok (.slice (some ⟨gm, 0, none⟩) 0 0) wm := hm0); clear hm0 Om; (have O1 := World.ownsRow.kept O qm (by cases (Value.slice a out.length d).ownBlock <;> simp)); clear O; (have O : OwnB wm w.heap.size (.slice a out.length d) out := O1); clear O1; replace HR := HR.grown qm (by simp); replace gr := grown_own gr qm (fun i h => by cases h); clear qm; have p2' := (rx_cells HR).1; have p4' := (rx_cells HR).2; simp only [Er.num] at p2')
                    | (go_at_call 33; (have ct := hTk.out _ gr _ _ HR kn (by omega)); rw [HT.out] at ct; refine ct.mono ?_; clear ct; rintro e4 we ⟨B, d2, rfl, hd2, hBn, hBg, hB, q, HRa⟩; (have O1 := own_keep O q (fun k hk e => by subst e; exact rx_ne HR O (by decide) hk.symm)); clear O; have O := O1; clear O1; replace gr := grown_trans gr q; clear q HR; have HR := HRa; clear HRa; clear p2' p4'; have p2 := (rx_cells HR).1; have p4 := (rx_cells HR).2; simp only [Er.num] at p2)
                    | (go_at_call 68; (have ct := hFi.out _ gr B d2 ts lb mb hB hd2 (by omega)); rw [HFF.out] at ct; refine ct.mono ?_; clear ct; rintro e5 wf ⟨rfl, q⟩; (have O1 := own_fr O q); clear O; (have O : OwnB wf w.heap.size (.slice a out.length d) out := O1); clear O1; replace HR := HR.fr q; replace gr := grown_fr gr q; replace hB := hB.fr q; clear q p2 p4; have p2 := (rx_cells HR).1; have p4 := (rx_cells HR).2; simp only [Er.num] at p2)
                    | (go_at_call 53; refine (failRow g _ c L j3 tld true 191 (by omega) _ HR).mono ?_; rintro e6 wg ⟨rfl, q, HRa⟩; (have hB2 : ∀ a, B = some a → some a.block ≠ some g := fun a e k => hgb (by injection k with k; rw [← hBg a e]; exact k)); replace hB := hB.grown q hB2; (have O1 := own_keep O q (fun k hk e => by subst e; exact rx_ne HR O (by decide) hk.symm)); clear O; have O := O1; clear O1; replace gr := grown_trans gr q; clear q HR; have HR := HRa; clear HRa; clear p2 p4; have p2 := (rx_cells HR).1; have p4 := (rx_cells HR).2; simp only [Er.num] at p2))
                  go_roundg k
                  case measure => omega
                  case rel => exact ⟨tl + (kn : Int), out, a, d, 1, .error 191, HD3, by omega, by omega, by omega, by omega, rfl, rfl, rfl, by omega, by omega, Lib.hid gr, Lib.hid HR, Lib.hid O⟩
                | false =>
                  have HD3 : Hid (dataX L false n k (tl + (kn : Int)) (out ++ ts) 1 (.error 191) = PP) := Lib.hid (by simpa [orFail] using hHD)
                  clear hHD
                  go_wp2_with (first
                    | (go_at_call 32; have _t := tok0; (have ct := hNu.out _ gr _ _ HR 1 0 1 (by omega) (by omega)); rw [HB1.out] at ct; refine ct.mono ?_; clear ct; rintro e1 wa ⟨rfl, q, HRa⟩; (have O1 := own_keep O q (fun k hk e => by subst e; exact rx_ne HR O (by decide) hk.symm)); clear O; have O := O1; clear O1; replace gr := grown_trans gr q; clear q HR tok0; have HR := HRa; clear HRa; have p2 := (rx_cells HR).1; simp only [Er.num] at p2; have tok1 : True := trivial)
                    | (go_at_call 32; have _t := tok1; (have ct := hNu.out _ gr _ _ HR 4 1 (n - tl) (by omega) (by omega)); rw [HB3.out] at ct; refine ct.mono ?_; clear ct; rintro e3 wd ⟨rfl, q, HRa⟩; (have O1 := own_keep O q (fun k hk e => by subst e; exact rx_ne HR O (by decide) hk.symm)); clear O; have O := O1; clear O1; replace gr := grown_trans gr q; clear q HR; have HR := HRa; clear HRa; clear tok1 p2; have p2 := (rx_cells HR).1; have p4 := (rx_cells HR).2; simp only [Er.num] at p2; obtain ⟨gm, hgm⟩ : ∃ gm, wd.heap.size = gm := ⟨_, rfl⟩; obtain ⟨wm, hm0, Om, qm⟩ := make_zeros 0 (by omega) w.heap.size wd gr.size; rw [hgm] at hm0; (have hm0' : (Instr.makeSlice 22 (.int .i64 0) (.int .i64 0)).run Tryd.prog wd = .ok (.slice (some ⟨gm, 0, none⟩) 0 0) wm := hm0); clear hm0 Om; (have O1 := World.ownsRow.kept O qm (by cases (Value.slice a out.length d).ownBlock <;> simp)); clear O; (have O : OwnB wm w.heap.size (.slice a out.length d) out := O1); clear O1; replace HR := HR.grown qm (by simp); replace gr := grown_own gr qm (fun i h => by cases h); clear qm; have p2' := (rx_cells HR).1; have p4' := (rx_cells HR).2; simp only [Er.num] at p2')
                    | (go_at_call 33; (have ct := hTk.out _ gr _ _ HR kn (by omega)); rw [HT.out] at ct; refine ct.mono ?_; clear ct; rintro e4 we ⟨B, d2, rfl, hd2, hBn, hBg, hB, q, HRa⟩; (have O1 := own_keep O q (fun k hk e => by subst e; exact rx_ne HR O (by decide) hk.symm)); clear O; have O := O1; clear O1; replace gr := grown_trans gr q; clear q HR; have HR := HRa; clear HRa; clear p2' p4'; have p2 := (rx_cells HR).1; have p4 := (rx_cells HR).2; simp only [Er.num] at p2)
                    | (go_at_call 68; (have ct := hFi.out _ gr B d2 ts lb mb hB hd2 (by omega)); rw [HFF.out] at ct; refine ct.mono ?_; clear ct; rintro e5 wf ⟨rfl, q⟩; (have O1 := own_fr O q); clear O; (have O : OwnB wf w.heap.size (.slice a out.length d) out := O1); clear O1; replace HR := HR.fr q; replace gr := grown_fr gr q; replace hB := hB.fr q; clear q p2 p4; have p2 := (rx_cells HR).1; have p4 := (rx_cells HR).2; simp only [Er.num] at p2)
                    | (go_at_call 53; refine (failRow g _ c L j3 tld false 191 (by omega) _ HR).mono ?_; rintro e6 wg ⟨rfl, q, HRa⟩; (have hB2 : ∀ a, B = some a → some a.block ≠ some g := fun a e k => hgb (by injection k with k; rw [← hBg a e]; exact k)); replace hB := hB.grown q hB2; (have O1 := own_keep O q (fun k hk e => by subst e; exact rx_ne HR O (by decide) hk.symm)); clear O; have O := O1; clear O1; replace gr := grown_trans gr q; clear q HR; have HR := HRa; clear HRa; clear p2 p4; have p2 := (rx_cells HR).1; have p4 := (rx_cells HR).2; simp only [Er.num] at p2; obtain ⟨v5, w5, hap, O5, q5, _⟩ := append_src Tryd.underlying22 hiy hzy hsy hyy rfl (by decide) 22 O B ts.length d2 (ts.map (Value.int .u8)) (bytes_src hB hBn) (by simp) (map_one _) (by unfold maxLen; omega) (by omega) gr.size; have mR := rx_ne HR O (by decide); replace HR := HR.grown q5 mR; replace gr := grown_own gr q5 (fun k hk => (World.ownsRow.lt O k hk).1); clear mR q5 O; obtain ⟨a5, d5', rfl⟩ := own_form O5)
                    | (at_builtin; refine wpList_append_run rfl _ _ 22 22 rfl (by simp [Act.eval]) (by simp [Act.eval]) hap ?_))
                  go_roundg k
                  case measure => omega
                  case rel => exact ⟨tl + (kn : Int), out ++ ts, a5, d5', 1, .error 191, HD3, by omega, by omega, by omega, by rw [List.length_append]; have := htl2; omega, by rw [List.length_append], rfl, rfl, by omega, by omega, Lib.hid gr, Lib.hid HR, Lib.hid (by unfold OwnB; rw [List.length_append, List.map_append]; exact O5)⟩
end Go.Proofs.YtlnaeppbhjmocaaDoor
set_option linter.unusedSimpArgs false
set_option linter.unusedVariables false
namespace Go.Proofs.YtlnaeppbhjmocaaDoor
open Go.RowKit Go.Proofs Go.Proofs.YtlnaeppbhjmocaaDoorW.PrintWords Go.Proofs.YtlnaeppbhjmocaaDoorW.PrintMore

theorem set6all {w : World} {g : Nat} {t : TypeId} {o0 o1 o2 o3 o4 o5 : Value} (H : w.heap[g]? = some (.cells #[o0, o1, o2, o3, o4, o5] t (0, 0))) (v0 v1 v2 v3 v4 v5 : Value) :
    ∃ w', ((((((w.setCell ⟨g, 0, none⟩ v0).setCell ⟨g, 1, none⟩ v1).setCell ⟨g, 2, none⟩ v2).setCell ⟨g, 3, none⟩ v3).setCell ⟨g, 4, none⟩ v4).setCell ⟨g, 5, none⟩ v5) = w' ∧ w.grownBy w' (some g) ∧ w'.heap[g]? = some (.cells #[v0, v1, v2, v3, v4, v5] t (0, 0)) := by
  have h := set_last (set_last (set_last (set_last (set_last (set_last H 0 v0) 1 v1) 2 v2) 3 v3) 4 v4) 5 v5
  simp only [List.setIfInBounds_toArray, List.set_cons_zero, List.set_cons_succ] at h
  exact ⟨_, rfl, sets_grown (sets_grown (sets_grown (sets_grown (sets_grown (sets_grown (grown_refl w _) 0 v0) 1 v1) 2 v2) 3 v3) 4 v4) 5 v5, h⟩
/-- the names lie in block ga -/
def NR (w : World) (A : Option Addr) (ga : Nat) (ns : List ByteArray) : Prop := (ga = 0 ∨ ga < w.heap.size) ∧ ∀ i (h : i < ns.length), A = some ⟨ga, 0, none⟩ ∧ w.cell? ⟨ga, i, none⟩ = some (.string ns[i])
theorem NR.fr {w w' : World} {A : Option Addr} {ga : Nat} {ns : List ByteArray} (h : NR w A ga ns) (q : Fr w w') : NR w' A ga ns := ⟨h.1.imp id (fun k => Nat.lt_of_lt_of_le k q.size), fun i hi => ⟨(h.2 i hi).1, q.cell (h.2 i hi).2⟩⟩
theorem NR.grown {w w' : World} {A : Option Addr} {ga g : Nat} {ns : List ByteArray} (h : NR w A ga ns) (q : w.grownBy w' (some g)) (hne : ga ≠ g) : NR w' A ga ns := ⟨h.1.imp id (fun k => Nat.lt_of_lt_of_le k q.size), fun i hi =>
  ⟨(h.2 i hi).1, cell_grown (g := 0) q (h.2 i hi).2 (fun e => hne (by injection e))⟩⟩
theorem NR.at {w : World} {A : Option Addr} {ga : Nat} {ns : List ByteArray} (h : NR w A ga ns) (i : Nat) (hi : i < ns.length) : A = some ⟨ga, 0, none⟩ ∧ w.cell? ⟨ga, i, none⟩ = some (.string ns[i]) := h.2 i hi
theorem names_nr (ns : List ByteArray) (h : ∀ n ∈ ns, nameB n = true) (hd : ns.length ≤ 64) (hsz : (pathOf ns).size ≤ 1023) (w : World) (hw : Ok w) :
    Calls Tryd.prog 51 #[.string (pathOf ns)] w fun e w' => ∃ A c ga, e = .returned (.tuple #[.slice A ns.length c, .bool true]) ∧ NR w' A ga ns ∧ Fr w w' ∧ (ga = 0 ∨ w.heap.size ≤ ga) := by
  refine (names_go ns h hd hsz w hw).mono ?_
  rintro e w' ⟨A, c, rfl, HS, f, hA⟩
  by_cases h0 : 0 < ns.length
  · obtain ⟨ga, rfl, hc⟩ := HS 0 h0
    refine ⟨_, c, ga, rfl, ⟨.inr (World.block_lt_of_cell? w' _ hc), fun i hi => ?_⟩, f, .inr (hA _ rfl)⟩
    obtain ⟨g', hg', hc'⟩ := HS i hi
    injection hg' with hg'
    injection hg' with hg'
    subst hg'
    exact ⟨rfl, hc'⟩
  · exact ⟨A, c, 0, rfl, ⟨.inl rfl, fun i hi => absurd hi (by omega)⟩, f, .inl rfl⟩
end Go.Proofs.YtlnaeppbhjmocaaDoor
