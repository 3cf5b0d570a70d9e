/- A row that was read well: its form; its beginnings are none (plain). -/
import Derived.Test.YtlnaeppbhjmocaaDoorV7
set_option linter.unusedSectionVars false
set_option linter.unnecessarySimpa false
set_option linter.unusedSimpArgs false
set_option linter.unusedVariables false
set_option linter.unusedSimpArgs false
set_option linter.unusedVariables false
namespace Go.Proofs.YtlnaeppbhjmocaaDoor
open Go.RowKit Go.Proofs

/-! ### Numbers and parts of a row -/
theorem leV_le (n : Nat) : ∀ v : Int, 0 ≤ v → v < 256 ^ n → leV (le v n) = v := by
  induction n with
  | zero => intro v h0 h1; simp at h1; simp [le, leV]; omega
  | succ n ih =>
    intro v h0 h1
    have h2 : v / 256 < 256 ^ n := by
      rw [Int.pow_succ] at h1
      exact Int.ediv_lt_of_lt_mul (by decide) h1
    rw [le, leV, ih (v / 256) (Int.ediv_nonneg h0 (by decide)) h2]
    omega
theorem take_at {L bs rest : List Int} {i : Nat} (h : L.drop i = bs ++ rest) (hi : i ≤ L.length) : takeX L bs.length (.ok i) = (bs, .ok (i + bs.length)) ∧ L.drop (i + bs.length) = rest ∧ i + bs.length ≤ L.length := by
  have hl := congrArg List.length h
  rw [List.length_drop, List.length_append] at hl
  refine ⟨?_, ?_, by omega⟩
  · simp only [takeX]
    rw [if_pos (by omega), h, List.take_left]
  · rw [← List.drop_drop, h, List.drop_left]
theorem num_at {L rest : List Int} {i n : Nat} {v low high : Int} (h : L.drop i = le v n ++ rest) (hi : i ≤ L.length) (h0 : 0 ≤ v) (h1 : v < 256 ^ n) (hlo : low ≤ v) (hhi : v ≤ high) : numX L n low high (.ok i) = (v, .ok (i + n)) ∧ L.drop (i + n) = rest ∧ i + n ≤ L.length := by
  obtain ⟨h2, h3, h4⟩ := take_at h hi
  rw [le_length] at h2 h3 h4
  refine ⟨?_, h3, h4⟩
  unfold numX
  rw [h2]
  dsimp only
  rw [leV_le n v h0 h1, if_pos ⟨hlo, hhi⟩]
theorem one_at {L rest : List Int} {i : Nat} {v low high : Int} (h : L.drop i = v :: rest) (hi : i ≤ L.length) (h0 : 0 ≤ v) (h1 : v < 256) (hlo : low ≤ v) (hhi : v ≤ high) : numX L 1 low high (.ok i) = (v, .ok (i + 1)) ∧ L.drop (i + 1) = rest ∧ i + 1 ≤ L.length := by
  refine num_at (n := 1) (by rw [h]; simp only [le, List.cons_append, List.nil_append]; rw [Int.emod_eq_of_lt h0 h1]) hi h0 (by simpa using h1) hlo hhi
theorem str_bytes (s : ByteArray) : strOfNums (bytesI s) = s := by
  apply ByteArray.ext
  unfold strOfNums bytesI
  apply Array.toList_inj.mp
  simp only [List.map_map]
  have : (fun x : Int => UInt8.ofNat x.toNat) ∘ (fun c : UInt8 => (c.toNat : Int)) = id := by
    funext c
    simp
  rw [this, List.map_id]

/-! ### A file's data, cut and read again -/
theorem no16_short (Z : Nat) (r : List Int) (hZ : Z < 16) (hr : no16 r = true) (h0 : r = [] ∨ r.headD 0 ≠ 0) : no16 (List.replicate Z 0 ++ r) = true := by
  have hl : lead0 r = 0 := by
    rcases h0 with e | e
    · rw [e]; rfl
    · cases r with
      | nil => rfl
      | cons x r => rw [lead0, if_neg (by simpa using e)]
  have hlz : ∀ z, lead0 (List.replicate z 0 ++ r) = z := by
    intro z
    induction z with
    | zero => simpa using hl
    | succ z ih => rw [List.replicate_succ, List.cons_append, lead0, if_pos rfl, ih]
  induction Z with
  | zero => simpa using hr
  | succ z ih =>
    rw [List.replicate_succ, List.cons_append, no16, ih (by omega)]
    have := hlz (z + 1)
    rw [List.replicate_succ, List.cons_append] at this
    rw [this]
    simpa using hZ
theorem lead0_zeros (l : List Int) : l.take (lead0 l) = List.replicate (lead0 l) 0 := by
  induction l with
  | nil => simp [lead0]
  | cons x r ih =>
    rw [lead0]
    by_cases h : x = 0
    · rw [if_pos h, List.take_succ_cons, ih, h, List.replicate_succ]
    · rw [if_neg h]; simp
/-- up to the next hole nothing is one; a byte that is none stands ahead of it -/
theorem nhL_full (L : List Int) : ∀ (d k : Nat), k + d = L.length → no16 ((L.drop k).take ((nhL (L.drop k) 0 k).1 - k)) = true ∧ ((nhL (L.drop k) 0 k).1 < L.length → (nhL (L.drop k) 0 k).1 = k ∨ (k < (nhL (L.drop k) 0 k).1 ∧ L.getD ((nhL (L.drop k) 0 k).1 - 1) 0 ≠ 0)) := by
  intro d
  induction d using Nat.strongRecOn with
  | _ d ih =>
  intro k hd
  have hzl := lead0_le (L.drop k)
  rw [List.length_drop] at hzl
  by_cases h16 : 16 ≤ lead0 (L.drop k)
  · rw [nhL_hole _ _ h16]
    refine ⟨by simp [no16], fun _ => .inl rfl⟩
  · rcases lead0_drop (L.drop k) with e | ⟨x, r, e, hx⟩
    · rw [nhL_end _ _ (by omega) e]
      have hlen := congrArg List.length e
      simp at hlen
      refine ⟨?_, fun h => by (have h : k + lead0 (L.drop k) < L.length := h); omega⟩
      show no16 ((L.drop k).take (k + lead0 (L.drop k) - k)) = true
      rw [Nat.add_sub_cancel_left, lead0_zeros]
      have := no16_short (lead0 (L.drop k)) [] (by omega) rfl (.inl rfl)
      simpa using this
    · rw [nhL_next _ _ (by omega) e hx]
      have he2 := e
      rw [List.drop_drop] at he2
      have hlen : k + lead0 (L.drop k) < L.length := by
        have := congrArg List.length he2
        simp at this; omega
      have hr : r = L.drop (k + lead0 (L.drop k) + 1) := by
        rw [List.drop_eq_getElem_cons hlen] at he2
        injection he2 with e1 e2
        exact e2.symm
      have hxe : x = L.getD (k + lead0 (L.drop k)) 0 := by
        rw [List.drop_eq_getElem_cons hlen] at he2
        injection he2 with e1 e2
        simp [List.getD, hlen, e1]
      rw [hr]
      obtain ⟨Z, hZ⟩ : ∃ Z, lead0 (L.drop k) = Z := ⟨_, rfl⟩
      have hlz := lead0_zeros (L.drop k)
      rw [hZ] at hlen hxe e he2 hzl h16 hlz ⊢
      obtain ⟨i1, i2⟩ := ih (d - (Z + 1)) (by omega) (k + Z + 1) (by omega)
      have hb := nhL_bounds (L.drop (k + Z + 1)) 0 (k + Z + 1) (by omega)
      obtain ⟨q, hq⟩ : ∃ q, (nhL (L.drop (k + Z + 1)) 0 (k + Z + 1)).1 = q := ⟨_, rfl⟩
      rw [hq] at i1 i2 hb ⊢
      constructor
      · have hsp : (L.drop k).take (q - k) = List.replicate Z 0 ++ (x :: (L.drop (k + Z + 1)).take (q - (k + Z + 1))) := by
          have h1 : L.drop k = List.replicate Z 0 ++ (x :: L.drop (k + Z + 1)) := by
            rw [← hlz]
            have h2 : x :: L.drop (k + Z + 1) = (L.drop k).drop Z := by rw [e, hr, hZ]
            rw [h2, List.take_append_drop]
          rw [h1, List.take_append, List.length_replicate, List.take_of_length_le (by rw [List.length_replicate]; omega)]
          congr 1
          rw [show q - k - Z = (q - (k + Z + 1)) + 1 by omega, List.take_succ_cons]
        rw [hsp]
        refine no16_short Z _ (by omega) ?_ (.inr (by simpa using hx))
        rw [no16, lead0, if_neg hx, i1]
        rfl
      · intro hlt
        right
        refine ⟨by omega, ?_⟩
        rcases i2 hlt with e3 | ⟨e3, e4⟩
        · rw [e3, Nat.add_sub_cancel]
          rw [← hxe]
          exact hx
        · exact e4
theorem getD_head (L : List Int) (p n : Nat) (h : p < L.length) (hn : 0 < n) : ((L.drop p).take n).headD 1 = L.getD p 0 := by
  obtain ⟨n, rfl⟩ : ∃ m, n = m + 1 := ⟨n - 1, by omega⟩
  rw [List.drop_eq_getElem_cons h, List.take_succ_cons]
  simp [List.getD, h]
theorem getD_last (L : List Int) (p n : Nat) (h : p + n ≤ L.length) (hn : 0 < n) : ((L.drop p).take n).getLastD 1 = L.getD (p + n - 1) 0 := by
  have hl : ((L.drop p).take n).length = n := by rw [List.length_take, List.length_drop]; omega
  rw [List.getLastD_eq_getLast?, List.getLast?_eq_getElem?, hl, List.getElem?_take_of_lt (by omega), List.getElem?_drop, List.getD, show p + (n - 1) = p + n - 1 by omega, List.getElem?_eq_getElem (by omega)]
  rfl
theorem nh_zero (L : List Int) (p : Nat) (h : 0 < lead0 (L.drop p)) (hp : p < L.length) : L.getD p 0 = 0 := by
  rw [List.drop_eq_getElem_cons hp, lead0] at h
  split at h
  · rename_i h0
    simp [List.getD, hp, h0]
  · omega
theorem lead0_next (L : List Int) (p : Nat) (h : p + lead0 (L.drop p) < L.length) : L.getD (p + lead0 (L.drop p)) 0 ≠ 0 := by
  rcases lead0_drop (L.drop p) with e | ⟨x, r, e, hx⟩
  · have := congrArg List.length e
    simp at this; omega
  · rw [List.drop_drop, List.drop_eq_getElem_cons h] at e
    injection e with e1 e2
    intro h0
    apply hx
    rw [← e1]
    simpa [List.getD, h] using h0
theorem dataX_done (L : List Int) (n : Int) (f : Nat) (told : Int) (out : List Int) (last : Int) (i : Nat) (hf : 0 < f) (h : ¬ told < n) : dataX L false n f told out last (.ok i) = (out, .ok i) := by
  obtain ⟨f, rfl⟩ : ∃ m, f = m + 1 := ⟨f - 1, by omega⟩
  rw [dataX, if_neg h]
/-- one hole read -/
theorem dataX_hole (L : List Int) (n : Int) (f : Nat) (told : Int) (out : List Int) (last : Int) (i k : Nat) (rest : List Int) (hd : L.drop i = 0 :: (le (k : Int) 4 ++ rest)) (hi : i ≤ L.length) (hl : last ≠ 0) (h16 : 16 ≤ k) (hk : told + (k : Int) ≤ n) (hk4 : k < 4294967296) :
    dataX L false n (f + 1) told out last (.ok i) = dataX L false n f (told + (k : Int)) (out ++ List.replicate k 0) 0 (.ok (i + 5)) ∧ L.drop (i + 5) = rest ∧ i + 5 ≤ L.length := by
  obtain ⟨a1, a2, a3⟩ := one_at (low := 0) (high := 1) hd hi (by decide) (by decide) (by decide) (by decide)
  obtain ⟨b1, b2, b3⟩ := num_at (n := 4) (low := 16) (high := n - told) a2 a3 (by omega) (by rw [show (256 : Int) ^ 4 = 4294967296 by decide]; omega) (by omega) (by omega)
  refine ⟨?_, b2, b3⟩
  rw [dataX, if_pos (by omega), a1]
  have e1 : orFail (.ok (i + 1)) (decide ((0 : Int) = last)) = .ok (i + 1) := by
    rw [decide_eq_false (fun e => hl e.symm)]; rfl
  simp only [e1, if_true]
  rw [b1]
  simp only [Bool.false_eq_true, if_false, Int.toNat_natCast]
  rw [if_neg (by decide)]
/-- one filled stretch read -/
theorem dataX_full (L : List Int) (n : Int) (f : Nat) (told : Int) (out : List Int) (last : Int) (i : Nat) (bs rest : List Int) (hd : L.drop i = 1 :: (le (bs.length : Int) 4 ++ (bs ++ rest))) (hi : i ≤ L.length) (hl : last ≠ 1) (h1 : 1 ≤ bs.length) (hk : told + (bs.length : Int) ≤ n) (hk4 : bs.length < 4294967296)
    (hF : filledB bs (decide (last = 0)) (decide (told + (bs.length : Int) < n)) = true) :
    dataX L false n (f + 1) told out last (.ok i) = dataX L false n f (told + (bs.length : Int)) (out ++ bs) 1 (.ok (i + 5 + bs.length)) ∧ L.drop (i + 5 + bs.length) = rest ∧ i + 5 + bs.length ≤ L.length := by
  obtain ⟨a1, a2, a3⟩ := one_at (low := 0) (high := 1) hd hi (by decide) (by decide) (by decide) (by decide)
  obtain ⟨b1, b2, b3⟩ := num_at (n := 4) (low := 1) (high := n - told) a2 a3 (by omega) (by rw [show (256 : Int) ^ 4 = 4294967296 by decide]; omega) (by omega) (by omega)
  obtain ⟨c1, c2, c3⟩ := take_at b2 b3
  refine ⟨?_, c2, c3⟩
  rw [dataX, if_pos (by omega), a1]
  have e1 : orFail (.ok (i + 1)) (decide ((1 : Int) = last)) = .ok (i + 1) := by
    rw [decide_eq_false (fun e => hl e.symm)]; rfl
  have e2 : ¬ ((1 : Int) = 0) := by decide
  simp only [e1, if_neg e2]
  rw [b1]
  simp only [Int.toNat_natCast, if_true]
  have c1' : takeX L bs.length (.ok (i + 1 + 4)) = (bs, .ok (i + 1 + 4 + bs.length)) := c1
  rw [c1']
  simp only [hF, Bool.not_true, orFail, Bool.false_eq_true, if_false]
/-- the data read from a place on -/
theorem data_at (L D : List Int) (hD : D.length ≤ 16777216) : ∀ (d f g p i : Nat) (last : Int) (rest : List Int), p + d = D.length → d < f → d ≤ g → L.drop i = (stretS D g p).flatMap (stretB D) ++ rest → i ≤ L.length →
    (last = -1 ∨ (last = 0 ∧ (p < D.length → D.getD p 0 ≠ 0))) → ∃ j, dataX L false (D.length : Int) f (p : Int) (D.take p) last (.ok i) = (D, .ok j) ∧ L.drop j = rest ∧ j ≤ L.length := by
  intro d
  induction d using Nat.strongRecOn with
  | _ d ih =>
  intro f g p i last rest hd hf hg hL hi hlast
  by_cases hp : p < D.length
  · obtain ⟨g, rfl⟩ : ∃ m, g = m + 1 := ⟨g - 1, by omega⟩
    obtain ⟨f, rfl⟩ : ∃ m, f = m + 1 := ⟨f - 1, by omega⟩
    by_cases h16 : 16 ≤ lead0 (D.drop p)
    · have hl := lead0_le (D.drop p)
      rw [List.length_drop] at hl
      have hl0 : last ≠ 0 := by
        rcases hlast with e | ⟨e, h⟩
        · omega
        · exact absurd (nh_zero D p (by omega) hp) (h hp)
      rw [stretS_hole D g p hp h16, List.flatMap_cons, List.append_assoc] at hL
      have hL2 : L.drop i = 0 :: (le ((lead0 (D.drop p) : Nat) : Int) 4 ++ ((stretS D g (p + lead0 (D.drop p))).flatMap (stretB D) ++ rest)) := by
        rw [hL]; simp [stretB]
      obtain ⟨e1, e2, e3⟩ := dataX_hole L (D.length : Int) f (p : Int) (D.take p) last i (lead0 (D.drop p)) _ hL2 hi hl0 h16 (by omega) (by omega)
      have ht : D.take p ++ List.replicate (lead0 (D.drop p)) 0 = D.take (p + lead0 (D.drop p)) := by
        rw [List.take_add, lead0_zeros]
      obtain ⟨j, h1, h2, h3⟩ := ih (d - lead0 (D.drop p)) (by omega) f g (p + lead0 (D.drop p)) (i + 5) 0 rest (by omega) (by omega) (by omega) e2 e3 (.inr ⟨rfl, fun h => lead0_next D p h⟩)
      refine ⟨j, ?_, h2, h3⟩
      rw [e1, ht]
      rw [← h1]
      congr 1
    · have hgt := nhL_gt D p hp (by omega)
      have hb := nhL_bounds (D.drop p) 0 p (by omega)
      rw [List.length_drop] at hb
      have hat := nhL_at D d p hd
      obtain ⟨hfu1, hfu2⟩ := nhL_full D d p hd
      rw [stretS, if_pos hp, if_pos hgt] at hL
      obtain ⟨q, hq⟩ : ∃ q, (nhL (D.drop p) 0 p).1 = q := ⟨_, rfl⟩
      obtain ⟨t, ht⟩ : ∃ t, (nhL (D.drop p) 0 p).2 = t := ⟨_, rfl⟩
      rw [hq] at hgt hb hat hfu1 hfu2
      rw [ht] at hat hb
      rw [hq, ht, List.singleton_append, List.flatMap_cons, List.append_assoc] at hL
      obtain ⟨bs, hbs⟩ : ∃ bs, (D.drop p).take (q - p) = bs := ⟨_, rfl⟩
      have hbl : bs.length = q - p := by rw [← hbs, List.length_take, List.length_drop]; omega
      have hL2 : L.drop i = 1 :: (le (bs.length : Int) 4 ++ (bs ++ (List.flatMap (stretB D) ((if q < t then [(0, q, t - q)] else []) ++ stretS D g t) ++ rest))) := by
        rw [hL]
        simp only [stretB, if_true, hbs, hbl, List.cons_append, List.append_assoc]
        rfl
      have hF : filledB bs (decide (last = 0)) (decide ((p : Int) + (bs.length : Int) < (D.length : Int))) = true := by
        unfold filledB
        rw [← hbs, hfu1]
        have h1 : ((D.drop p).take (q - p)).isEmpty = false := by
          rw [hbs]
          cases bs with
          | nil => simp at hbl; omega
          | cons x r => rfl
        rw [h1, getD_head D p (q - p) hp (by omega), getD_last D p (q - p) (by omega) (by omega)]
        have h2 : (decide (last = 0) && (D.getD p 0 == 0)) = false := by
          rcases hlast with e | ⟨e, h⟩
          · rw [e]; rfl
          · have h5 : (D.getD p 0 == 0) = false := by rw [beq_eq_false_iff_ne]; exact h hp
            rw [h5, Bool.and_false]
        rw [h2]
        have h3 : (decide ((p : Int) + (((D.drop p).take (q - p)).length : Int) < (D.length : Int)) && (D.getD (p + (q - p) - 1) 0 == 0)) = false := by
          by_cases hq2 : q < D.length
          · rcases hfu2 hq2 with e | ⟨_, e⟩
            · omega
            · have h5 : (D.getD (q - 1) 0 == 0) = false := by rw [beq_eq_false_iff_ne]; exact e
              rw [show p + (q - p) - 1 = q - 1 by omega, h5, Bool.and_false]
          · rw [hbs, hbl, decide_eq_false (by omega)]
            rfl
        rw [h3]
        rfl
      obtain ⟨e1, e2, e3⟩ := dataX_full L (D.length : Int) f (p : Int) (D.take p) last i bs _ hL2 hi (by rcases hlast with e | ⟨e, _⟩ <;> omega) (by omega) (by omega) (by omega) hF
      have htk : D.take p ++ bs = D.take q := by
        rw [← hbs, ← List.take_add, show p + (q - p) = q by omega]
      rcases hat with ⟨hq2, ht2⟩ | ⟨hq2, ht2⟩
      · refine ⟨i + 5 + bs.length, ?_, ?_, e3⟩
        · rw [e1, dataX_done _ _ _ _ _ _ _ (by omega) (by omega), htk, hq2, List.take_length]
        · rw [e2, if_neg (by omega), stretS_len D g t (by omega)]
          rfl
      · have hl := lead0_le (D.drop q)
        rw [List.length_drop] at hl
        obtain ⟨f, rfl⟩ : ∃ m, f = m + 1 := ⟨f - 1, by omega⟩
        rw [if_pos (by omega), List.singleton_append, List.flatMap_cons, List.append_assoc] at e2
        have hL3 : L.drop (i + 5 + bs.length) = 0 :: (le ((lead0 (D.drop q) : Nat) : Int) 4 ++ ((stretS D g t).flatMap (stretB D) ++ rest)) := by
          rw [e2]
          have : t - q = lead0 (D.drop q) := by omega
          simp [stretB, this]
        obtain ⟨g1, g2, g3⟩ := dataX_hole L (D.length : Int) f ((p : Int) + (bs.length : Int)) (D.take p ++ bs) 1 (i + 5 + bs.length) (lead0 (D.drop q)) _ hL3 e3 (by decide) hq2 (by omega) (by omega)
        have ht3 : D.take p ++ bs ++ List.replicate (lead0 (D.drop q)) 0 = D.take t := by
          rw [htk, ← lead0_zeros, ← List.take_add, ht2]
        obtain ⟨j, h1, h2, h3⟩ := ih (d - (q - p) - lead0 (D.drop q)) (by omega) f g t (i + 5 + bs.length + 5) 0 rest (by omega) (by omega) (by omega) g2 g3 (.inr ⟨rfl, fun h => by rw [ht2] at h ⊢; exact lead0_next D q h⟩)
        refine ⟨j, ?_, h2, h3⟩
        rw [e1, g1, ht3, ← h1]
        congr 1
        omega
  · have hs : stretS D g p = [] := stretS_len D g p (by omega)
    rw [hs] at hL
    exact ⟨i, by rw [dataX_done _ _ _ _ _ _ _ (by omega) (by omega), List.take_of_length_le (by omega)], by simpa using hL, hi⟩
end Go.Proofs.YtlnaeppbhjmocaaDoor
set_option linter.unusedSimpArgs false
set_option linter.unusedVariables false
namespace Go.Proofs.YtlnaeppbhjmocaaDoor
open Go.RowKit Go.Proofs

theorem bl_tri (x : List UInt8) : ∀ y : List UInt8, Op.bytesLess x y = true → (!(Op.bytesLess y x || y == x)) = true := by
  intro y h
  rw [bl_eq, decide_eq_true_eq] at h
  rw [bl_eq]
  have h1 : ¬ y < x := List.lt_asymm h
  have h2 : y ≠ x := fun e => by subst e; exact List.lt_irrefl _ h
  simp [h1, h2]
/-- behind a path: where they part -/
theorem behind_part {a n : List ByteArray} (h : behindX ltB a n = true) (k : Nat) (hk : k = n.length - 1) (hs : k ≤ sharedX a n) (hka : k < a.length) : ltB (a.getD k ⟨#[]⟩) (n.getLastD ⟨#[]⟩) = true := by
  induction a generalizing n k with
  | nil => simp at hka
  | cons x a ih =>
    cases n with
    | nil => simp [behindX] at h
    | cons y n =>
      simp only [behindX] at h
      simp only [sharedX] at hs
      by_cases hxy : x = y
      · rw [if_pos hxy] at h hs
        have hne := behind_ne ltB h
        obtain ⟨z, n', rfl⟩ : ∃ z n', n = z :: n' := by cases n with
          | nil => exact absurd rfl hne
          | cons z n' => exact ⟨z, n', rfl⟩
        obtain ⟨k, rfl⟩ : ∃ m, k = m + 1 := ⟨k - 1, by simp at hk; omega⟩
        have := ih h k (by simp at hk ⊢; omega) (by omega) (by simp at hka; omega)
        simpa using this
      · rw [if_neg hxy] at h hs
        obtain rfl : k = 0 := by omega
        have : n = [] := List.eq_nil_of_length_eq_zero (by simp at hk; omega)
        subst this
        simpa using h
/-- a leaf's piece is read as that leaf -/
theorem leaf_at (L : List Int) (l : Lf) (ns ahead : List ByteArray) (dir : Bool) (i : Nat) (rest : List Int) (hok : okL l = true) (hn : namesP l.path.data.toList = some ns) (hst : 0 ≤ l.stamp ∧ l.stamp ≤ 18446744073709551615)
    (hs : stepX ltB ahead dir ns = true) (hd : L.drop i = pieceB l ns ++ rest) (hi : i ≤ L.length) : ∃ j, leafX gtB L false ahead dir (.ok i) = ((l, ns), .ok j) ∧ L.drop j = rest ∧ j ≤ L.length ∧ i < j := by
  obtain ⟨t1, t3, m0, m1, d1, dnil, gnil, gok⟩ := okL_ty hok
  obtain ⟨hp, hnm, h64, h1023⟩ := namesP_good hn
  simp only [stepX, Bool.and_eq_true, Bool.or_eq_true, decide_eq_true_eq] at hs
  obtain ⟨⟨hb, hsh⟩, hdr⟩ := hs
  have hne := behind_ne ltB hb
  have hpos : 0 < ns.length := List.length_pos_iff.mpr hne
  have hsl := shared_le ahead ns
  obtain ⟨k, hk⟩ : ∃ k, ns.length - 1 = k := ⟨_, rfl⟩
  obtain ⟨nm, hnm'⟩ : ∃ nm, ns.getLastD ⟨#[]⟩ = nm := ⟨_, rfl⟩
  have hlast : ns.getLastD ⟨#[]⟩ = ns.getLast hne := by
    rw [List.getLastD_eq_getLast?, List.getLast?_eq_some_getLast hne]; rfl
  have hmem : nm ∈ ns := by
    rw [← hnm', hlast]
    exact List.getLast_mem hne
  have hnB := hnm nm hmem
  have hsz : 1 ≤ nm.size ∧ nm.size ≤ 63 := by
    have := hnB
    unfold nameB at this
    simp only [Bool.and_eq_true, decide_eq_true_eq] at this
    exact this.1.1.1
  have hns : ahead.take k ++ [nm] = ns := by
    rw [shared_take ahead ns k (by omega), ← hnm', ← hk]
    have := List.dropLast_concat_getLast hne
    rw [List.dropLast_eq_take] at this
    rw [hlast]; exact this
  have hpath : pathOf ns = l.path := bs_ext (by rw [pathOf_data, hp])
  have hpsz : (pathOf ns).size ≤ 1023 := by rw [hpath]; exact h1023
  have hmost : (k : Int) ≤ mostX ahead dir := by
    unfold mostX
    cases dir with
    | true => simp; split <;> omega
    | false =>
      have : k ≠ ahead.length := by
        rcases hdr with e | e
        · omega
        · cases e
      simp; split <;> omega
  unfold pieceB pieceH at hd
  rw [hk, hnm'] at hd
  simp only [List.append_assoc, List.cons_append, List.nil_append] at hd
  obtain ⟨a1, a2, a3⟩ := one_at (low := 0) (high := mostX ahead dir) hd hi (by omega) (by omega) (by omega) hmost
  obtain ⟨b1, b2, b3⟩ := one_at (low := 1) (high := 3) a2 a3 (by omega) (by omega) (by omega) (by omega)
  obtain ⟨c1, c2, c3⟩ := num_at (n := 2) (low := 0) (high := 4095) b2 b3 (by omega) (by rw [show (256 : Int) ^ 2 = 65536 by decide]; omega) (by omega) (by omega)
  obtain ⟨e1, e2, e3⟩ := num_at (n := 8) (low := 0) (high := 18446744073709551615) c2 c3 (by omega) (by rw [show (256 : Int) ^ 8 = 18446744073709551616 by decide]; omega) (by omega) (by omega)
  obtain ⟨f1, f2, f3⟩ := one_at (low := 1) (high := 63) e2 e3 (by omega) (by omega) (by omega) (by omega)
  obtain ⟨g1, g2, g3⟩ := take_at f2 f3
  rw [bytesI_length] at g1 g2 g3
  have hbad : ¬ (nameB nm = false ∨ (k < ahead.length ∧ gtB nm (ahead.getD k ⟨#[]⟩) = false) ∨ 1023 < (pathOf ns).size) := by
    rintro (h | ⟨h, h'⟩ | h)
    · rw [hnB] at h; cases h
    · have := behind_part hb k (by omega) (by omega) h
      rw [hnm'] at this
      unfold ltB at this
      unfold gtB at h'
      rw [bl_tri _ _ this] at h'
      cases h'
    · omega
  unfold leafX
  rw [a1]
  dsimp only
  rw [b1]
  dsimp only
  rw [c1]
  dsimp only
  rw [e1]
  dsimp only
  rw [f1]
  dsimp only
  rw [Int.toNat_natCast, g1]
  dsimp only
  rw [str_bytes, Int.toNat_natCast, hns, if_neg hbad, hpath]
  unfold pieceT at g2
  by_cases ty1 : l.ty = 1
  · rw [if_pos ty1] at g2 ⊢
    unfold cutB at g2
    rw [List.append_assoc] at g2
    obtain ⟨h1, h2, h3⟩ := num_at (n := 4) (low := 0) (high := 16777216) g2 g3 (by omega) (by rw [show (256 : Int) ^ 4 = 4294967296 by decide]; omega) (by omega) (by omega)
    obtain ⟨j, q1, q2, q3⟩ := data_at L l.data d1 l.data.length (l.data.length + 1) l.data.length 0 _ (-1) rest (by omega) (by omega) (by omega) h2 h3 (.inl rfl)
    have hq : dataR L false (l.data.length : Int) (.ok (i + 1 + 1 + 2 + 8 + 1 + nm.size + 4)) = (l.data, .ok j) := by
      unfold dataR
      rw [Int.toNat_natCast]
      exact q1
    refine ⟨j, ?_, q2, q3, ?_⟩
    · rw [h1]
      dsimp only
      rw [hq, ← gnil (by omega)]
    · have h7 := congrArg List.length hd
      have h8 := congrArg List.length q2
      rw [List.length_drop] at h7 h8
      simp only [List.length_cons, List.length_append] at h7
      omega
  · rw [if_neg ty1] at g2 ⊢
    by_cases ty3 : l.ty = 3
    · rw [if_pos ty3] at g2 ⊢
      simp only [List.append_assoc, List.cons_append, List.nil_append] at g2
      have htb := gok ty3
      have htsz : 1 ≤ l.tgt.size ∧ l.tgt.size ≤ 127 := by
        have := htb
        unfold targetB at this
        simp only [Bool.and_eq_true, decide_eq_true_eq] at this
        exact this.1
      obtain ⟨h1, h2, h3⟩ := one_at (low := 1) (high := 127) g2 g3 (by omega) (by omega) (by omega) (by omega)
      obtain ⟨k1, k2, k3⟩ := take_at h2 h3
      rw [bytesI_length] at k1 k2 k3
      refine ⟨_, ?_, k2, k3, by omega⟩
      rw [h1]
      dsimp only
      rw [Int.toNat_natCast, k1]
      dsimp only
      rw [str_bytes, htb, ← dnil ty1]
      rfl
    · rw [if_neg ty3] at g2 ⊢
      refine ⟨_, ?_, by simpa using g2, g3, by omega⟩
      rw [← dnil ty1, ← gnil ty3]
/-! ### A tree -/
theorem drop_head {L : List Int} {i : Nat} {v : Int} {rest : List Int} (h : L.drop i = v :: rest) : i < L.length ∧ L.getD i 0 = v := by
  have hl := congrArg List.length h
  rw [List.length_drop, List.length_cons] at hl
  have hi : i < L.length := by omega
  rw [List.drop_eq_getElem_cons hi] at h
  injection h with h1 h2
  exact ⟨hi, by simp [List.getD, hi, h1]⟩
theorem piece_head (l : Lf) (ns : List ByteArray) : ∃ r, pieceB l ns = ((ns.length - 1 : Nat) : Int) :: r := by
  unfold pieceB pieceH
  exact ⟨_, by simp only [List.append_assoc, List.cons_append, List.nil_append]; rfl⟩
theorem tree_at (L : List Int) (rest : List Int) : ∀ (r : List Lf) (ahead : List ByteArray) (dir : Bool) (i f : Nat) (acc : List Lf), restB ahead dir r = true → (∀ l ∈ r, 0 ≤ l.stamp ∧ l.stamp ≤ 18446744073709551615) → r.length < f →
    L.drop i = r.flatMap (fun x => pieceB x (nmL x)) ++ (255 :: rest) → i ≤ L.length → ∃ j, treeX gtB L false f acc ahead dir (.ok i) = (acc ++ r, .ok j) ∧ L.drop j = 255 :: rest ∧ j ≤ L.length := by
  intro r
  induction r with
  | nil =>
    intro ahead dir i f acc _ _ hf hd hi
    obtain ⟨f, rfl⟩ : ∃ m, f = m + 1 := ⟨f - 1, by omega⟩
    have hd2 : L.drop i = 255 :: rest := by simpa using hd
    obtain ⟨h1, h2⟩ := drop_head hd2
    refine ⟨i, ?_, hd2, hi⟩
    rw [treeX, if_neg (fun e => e.2 h2), List.append_nil]
  | cons l r ih =>
    intro ahead dir i f acc hr hst hf hd hi
    obtain ⟨f, rfl⟩ : ∃ m, f = m + 1 := ⟨f - 1, by omega⟩
    rw [restB, Bool.and_eq_true, Bool.and_eq_true, Bool.and_eq_true] at hr
    obtain ⟨⟨⟨h1, h2⟩, h3⟩, h4⟩ := hr
    have hn : namesP l.path.data.toList = some (nmL l) := by
      unfold nmL
      cases hq : namesP l.path.data.toList with
      | none => rw [hq] at h1; cases h1
      | some ns => rfl
    obtain ⟨_, _, h64, _⟩ := namesP_good hn
    rw [List.flatMap_cons, List.append_assoc] at hd
    obtain ⟨j, e1, e2, e3, e4⟩ := leaf_at L l (nmL l) ahead dir i _ h2 hn (hst l List.mem_cons_self) h3 hd hi
    obtain ⟨q, hq⟩ := piece_head l (nmL l)
    rw [hq, List.cons_append] at hd
    obtain ⟨h5, h6⟩ := drop_head hd
    obtain ⟨j2, g1, g2, g3⟩ := ih (nmL l) (decide (l.ty = 2)) j f (acc ++ [l]) h4 (fun x hx => hst x (List.mem_cons_of_mem _ hx)) (by simp at hf; omega) e2 e3
    refine ⟨j2, ?_, g2, g3⟩
    rw [treeX, if_pos ⟨h5, by rw [h6]; omega⟩, e1]
    dsimp only
    rw [g1]
    simp
def bodyX (x : Lf) (r : List Lf) : List Int := headX x ++ r.flatMap (fun y => pieceB y (nmL y)) ++ [255]
theorem tree_len (r : List Lf) : r.length ≤ (r.flatMap (fun y => pieceB y (nmL y))).length := by
  induction r with
  | nil => simp
  | cons l r ih =>
    obtain ⟨q, hq⟩ := piece_head l (nmL l)
    rw [List.flatMap_cons, List.length_append, hq, List.length_cons, List.length_cons]
    omega
/-- a tree's bytes, and something behind them, read -/
theorem read_pack (crc : List Int → Int) (x : Lf) (r : List Lf) (more : List Int) (hp : x.path.data.toList = [47]) (ht : x.ty = 2) (hok : okL x = true) (hr : restB [] true r = true) (hst : ∀ l ∈ x :: r, 0 ≤ l.stamp ∧ l.stamp ≤ 18446744073709551615) :
    readX crc (bodyX x r ++ le (crc (bodyX x r)) 4 ++ more) = if more = [] then (x :: r, 0) else ([], 190) := by
  obtain ⟨L, hL⟩ : ∃ L, bodyX x r ++ le (crc (bodyX x r)) 4 ++ more = L := ⟨_, rfl⟩
  obtain ⟨C, hC⟩ : ∃ C, crc (bodyX x r) = C := ⟨_, rfl⟩
  obtain ⟨_, _, m0, m1, _, dnil, gnil, _⟩ := okL_ty hok
  have hsx := hst x List.mem_cons_self
  have hroot : rootLf x.mode x.stamp = x := by
    unfold rootLf
    have h1 : x.path = ⟨#[47]⟩ := ByteArray.ext (Array.toList_inj.mp hp)
    have h2 := dnil (by omega)
    have h3 := gnil (by omega)
    cases x
    simp only at h1 h2 h3 ht ⊢
    rw [h1, h2, h3, ht]
  have hlen : (bodyX x r).length + 4 + more.length = L.length := by
    rw [← hL, List.length_append, List.length_append, le_length]
  have h0 : L.drop 0 = [80, 82, 67, 76, 1] ++ (le x.mode 2 ++ (le x.stamp 8 ++ (r.flatMap (fun y => pieceB y (nmL y)) ++ (255 :: (le C 4 ++ more))))) := by
    rw [List.drop_zero, ← hL, hC]
    unfold bodyX headX
    simp only [List.append_assoc, List.cons_append, List.nil_append]
  obtain ⟨a1, a2, a3⟩ := take_at h0 (Nat.zero_le _)
  have hhead : headB L = true := by
    unfold headB
    have h5 : L.take 5 = [80, 82, 67, 76, 1] := by
      have := h0
      rw [List.drop_zero] at this
      rw [this]; rfl
    rw [h5]
    have h6 : 5 ≤ L.length := a3
    simp [h6]
  have a2' : L.drop 5 = le x.mode 2 ++ (le x.stamp 8 ++ (r.flatMap (fun y => pieceB y (nmL y)) ++ (255 :: (le C 4 ++ more)))) := a2
  obtain ⟨b1, b2, b3⟩ := num_at (n := 2) (low := 0) (high := 4095) a2' a3 (by omega) (by rw [show (256 : Int) ^ 2 = 65536 by decide]; omega) (by omega) (by omega)
  obtain ⟨c1, c2, c3⟩ := num_at (n := 8) (low := 0) (high := 18446744073709551615) b2 b3 (by omega) (by rw [show (256 : Int) ^ 8 = 18446744073709551616 by decide]; omega) (by omega) (by omega)
  have hrl := tree_len r
  have hbl : (bodyX x r).length = 15 + (r.flatMap (fun y => pieceB y (nmL y))).length + 1 := by
    unfold bodyX headX
    simp only [List.length_append, le_length, List.length_cons, List.length_nil]
  obtain ⟨j, e1, e2, e3⟩ := tree_at L (le C 4 ++ more) r [] true 15 (L.length + 1) [rootLf x.mode x.stamp] hr (fun l hl => hst l (List.mem_cons_of_mem _ hl)) (by omega) c2 c3
  have e2' : L.drop j = [255] ++ (le C 4 ++ more) := e2
  obtain ⟨f1, f2, f3⟩ := take_at e2' e3
  obtain ⟨g1, g2, g3⟩ := take_at f2 f3
  rw [le_length] at g1 g2 g3
  have hj : j + 1 = (bodyX x r).length := by
    have := congrArg List.length e2
    rw [List.length_drop, List.length_cons, List.length_append, le_length] at this
    omega
  have htree : treeR L (numX L 2 0 4095 (.ok 5)) (numX L 8 0 18446744073709551615 (numX L 2 0 4095 (.ok 5)).2) = (x :: r, .ok j) := by
    rw [b1]
    dsimp only
    rw [c1]
    unfold treeR
    dsimp only
    rw [e1, hroot]
    rfl
  rw [hL]
  unfold readX
  rw [if_pos hhead, htree]
  dsimp only
  have f1' : takeX L 1 (.ok j) = ([255], .ok (j + 1)) := f1
  have g1' : takeX L 4 (.ok (j + 1)) = (le C 4, .ok (j + 1 + 4)) := g1
  rw [endX_E, f1']
  dsimp only
  rw [g1']
  have htk : L.take (j + 1 + 4 - 4) = bodyX x r := by
    rw [Nat.add_sub_cancel, hj, ← hL, List.append_assoc, List.take_left]
  simp only [endE]
  rw [htk, hC, if_pos rfl]
  cases more with
  | nil =>
    rw [if_neg (by simp at hlen; omega), if_pos rfl]
  | cons y m =>
    rw [if_pos (by simp at hlen; omega), if_neg (by simp)]
theorem packX_ok {t : List Lf} {L : List Int} (h : packX t = (L, 0)) : ∃ x r, t = x :: r ∧ x.path.data.toList = [47] ∧ x.ty = 2 ∧ okL x = true ∧ restB [] true r = true ∧ L = bodyX x r ++ le (crcI (bodyX x r)) 4 := by
  cases t with
  | nil => cases h
  | cons x r =>
    unfold packX at h
    dsimp only at h
    split at h
    · rename_i h1
      split at h
      · rename_i h2
        injection h with h3 h4
        exact ⟨x, r, rfl, h1.1, h1.2, h2.1, h2.2, h3.symm⟩
      · injection h with h3 h4; cases h4
    · injection h with h3 h4; cases h4
theorem packX_err {t : List Lf} (h : (packX t).2 ≠ 0) : (packX t).1 = [] := by
  cases t with
  | nil => rfl
  | cons x r =>
    unfold packX at h ⊢
    dsimp only at h ⊢
    split
    · split
      · rename_i h1 h2
        rw [if_pos h1, if_pos h2] at h
        exact absurd rfl h
      · rfl
    · rfl
end Go.Proofs.YtlnaeppbhjmocaaDoor
set_option linter.unusedSimpArgs false
set_option linter.unusedVariables false
namespace Go.Proofs.YtlnaeppbhjmocaaDoor
open Go.RowKit Go.Proofs

theorem OwnB.empty (w : World) (B : Nat) (hB : B ≤ w.heap.size) : OwnB (w.alloc (.cells #[] 5)) B (.slice (some ⟨w.heap.size, 0, none⟩) 0 0) [] := by
  refine ⟨rfl, .inr ⟨w.heap.size, 0, #[], rfl, hB, World.alloc_heap_new w _, Nat.le_refl _, by unfold maxLen; omega, rfl, rfl⟩⟩
set_option maxRecDepth 100000 in
set_option maxHeartbeats 1600000 in
theorem sealed18_any (A : Option Addr) (c : Nat) (L : List Int) (hb : bytesOk L) (hc : L.length ≤ c) (hL : L.length ≤ 1073741824) (hAc : A = none → c = 0) (w : World) (hw : Ok w) (hA : BytesAt w A L) :
    Calls Tryd.prog 25 #[.slice A L.length c] w fun e w' => ∃ a d, e = .returned (.slice a (L ++ le (crcI L) 4).length d) ∧ OwnB w' w.heap.size (.slice a (L ++ le (crcI L) 4).length d) (L ++ le (crcI L) 4) ∧ Fr w w' := by
  have hsum := sum_any A c L hb hc hL w hw hA
  have hcrr := crcI_rg hb
  obtain ⟨cr, hcr⟩ : ∃ cr, crcI L = cr := ⟨_, rfl⟩
  rw [hcr] at hsum hcrr ⊢
  obtain ⟨w1, hw1⟩ : ∃ w1, w.alloc (.cells #[] 5) = w1 := ⟨_, rfl⟩
  obtain ⟨g1, hg1⟩ : ∃ g, w.heap.size = g := ⟨_, rfl⟩
  have O1 := OwnB.empty w w.heap.size (Nat.le_refl _)
  have q1 : w.grownBy w1 none := by rw [← hw1]; exact World.grownBy_alloc _ _ none
  rw [hw1, hg1] at O1
  have f1 := fr_of_grown hw q1
  obtain ⟨v2, w2, hap, O2, q2, i2⟩ := append_row 22 g1 (some ⟨g1, 0, none⟩) 0 [] L A c w1 O1 (hA.fr f1) hAc (by simp; omega) (by have := q1.size; omega)
  rw [List.nil_append] at O2
  simp only [List.length_nil] at hap
  obtain ⟨a2, d2, rfl⟩ := O2.form
  have f2 : Fr w w2 := Fr.row f1 hw q2 (fun k e => by have := (World.ownsRow.lt O1 k e).1; omega)
  obtain ⟨w3, v4, w4, hw3, hap2, O4, q4, i4⟩ := append_lit 22 g1 a2 d2 L (le cr 4) w2 O2 (by rw [le_length]; omega) (by have := f2.size; omega)
  have f4 : Fr w w4 := Fr.row f2 hw q4 (fun k e => by have := (World.ownsRow.lt O2 k e).1; omega)
  obtain ⟨g3, hg3⟩ : ∃ g, w2.heap.size = g := ⟨_, rfl⟩
  rw [hg3, le_length] at hap2
  have hle : le cr 4 = [cr % 256, cr / 256 % 256, cr / 65536 % 256, cr / 16777216] := by
    have h0 : le cr 4 = [cr % 256, cr / 256 % 256, cr / 256 / 256 % 256, cr / 256 / 256 / 256 % 256] := rfl
    rw [h0]
    have h1 : cr / 256 / 256 % 256 = cr / 65536 % 256 := by omega
    have h2 : cr / 256 / 256 / 256 % 256 = cr / 16777216 := by omega
    rw [h1, h2]
  rw [hle] at hw3
  simp only [List.map_cons, List.map_nil] at hw3
  obtain ⟨Z, hZ⟩ : ∃ Z, L ++ le cr 4 = Z := ⟨_, rfl⟩
  rw [hZ] at O4 ⊢
  obtain ⟨a4, d4, rfl⟩ := O4.form
  have HF := Lib.hid (And.intro O4 f4)
  have HSum := Lib.hid hsum
  clear O4 f4 hsum hle hZ O2 f2 q4 i4 q2 i2 O1 f1 q1 hcr
  go_enter Tryd.func25, Tryd.ntmps25
  go_wp2_with (first
    | (go_at_call 40; refine HSum.out.mono ?_; rintro e w7 ⟨rfl, he⟩; replace he := he.symm; subst he)
    | (at_builtin; refine wpList_append_run rfl _ _ 22 22 rfl (by simp [Act.eval]) (by simp [Act.eval]) hap ?_)
    | (at_builtin; refine wpList_append_run rfl _ _ 22 22 rfl (by simp [Act.eval]) (by simp [Act.eval]) hap2 ?_))
  exact ⟨rfl, _, results_tmp rfl _ _ _, a4, d4, rfl, (by rw [hg1]; exact HF.out.1), HF.out.2⟩
end Go.Proofs.YtlnaeppbhjmocaaDoor
set_option linter.unusedSimpArgs false
set_option linter.unusedVariables false
namespace Go.Proofs.YtlnaeppbhjmocaaDoor
open Go.RowKit Go.Proofs Go.Proofs.YtlnaeppbhjmocaaDoorW.PrintWords Go.Proofs.YtlnaeppbhjmocaaDoorW.PrintMore

theorem TreeAt.fr {w w' : World} {B : Nat} {v : Value} {lfs : List Lf} (h : TreeAt w B v lfs) (q : Fr w w') : TreeAt w' B v lfs := by
  obtain ⟨a, tv, c, rfl, h1, h2, h3⟩ := h
  exact ⟨a, tv, c, rfl, h1, own_fr h2 q, h3.fr q⟩
end Go.Proofs.YtlnaeppbhjmocaaDoor
set_option linter.unusedSimpArgs false
set_option linter.unusedVariables false
namespace Go.Proofs.YtlnaeppbhjmocaaDoor
open Go.RowKit Go.Proofs

/-- a tree that was read, and one handed in -/
theorem alike_in {w : World} (hw : Ok w) {B : Nat} {v : Value} {lfs : List Lf} (h : TreeAt w B v lfs) {A : Option Addr} {c : Nat} {tv : List (Lf × Value)} (h' : LAt w A tv) (hc : tv.length ≤ c) (he : tv.map Prod.fst = lfs) (hl : lfs.length ≤ 1099511627776) (hd : ∀ p ∈ tv, p.1.data.length ≤ 1099511627776) :
    Calls Tryd.prog 17 #[v, .slice A tv.length c] w fun e w' => e = .returned (.bool true) ∧ Fr w w' := by
  obtain ⟨a, tv1, c1, rfl, h1, h2, h3⟩ := h
  have l1 : tv1.length = lfs.length := by rw [← h1, List.length_map]
  have l2 : tv.length = lfs.length := by rw [← he, List.length_map]
  have m1 : tv1.map toS = lfs.map toS1 := by rw [← h1, List.map_map]; rfl
  have m2 : tv.map toS = lfs.map toS1 := by rw [← he, List.map_map]; rfl
  obtain ⟨C1, k1⟩ := tree_C h2 h3 (by omega)
  have C2 := h'.toAlike (by omega) hd
  rw [m1] at C1 k1
  rw [m2] at C2
  have hn : (lfs.map toS1).length = lfs.length := List.length_map ..
  have := (Palike.shalelaw18_alike.calls _ a c1 (lfs.map toS1) A c (lfs.map toS1) true w C1 k1 C2 (by omega) (alike_f _ (by omega))).mono fun e w' ⟨he, hb⟩ => (⟨he, Fr.of hw hb⟩ : e = Ending.returned (.bool true) ∧ Fr w w')
  rw [hn] at this
  rw [l1, l2]
  exact this

def headT : List Lf := [⟨⟨#[47]⟩, 2, 493, 0, [], ⟨#[]⟩⟩, ⟨⟨#[47, 97]⟩, 1, 420, 5, [104, 105], ⟨#[]⟩⟩, ⟨⟨#[47, 100]⟩, 2, 493, 0, [], ⟨#[]⟩⟩, ⟨⟨#[47, 100, 47, 108]⟩, 3, 0, 0, [], ⟨#[46, 46, 47, 97]⟩⟩]
def headR : List Lf := [⟨⟨#[47, 97]⟩, 1, 420, 5, [104, 105], ⟨#[]⟩⟩, ⟨⟨#[47, 100]⟩, 2, 493, 0, [], ⟨#[]⟩⟩, ⟨⟨#[47, 100, 47, 108]⟩, 3, 0, 0, [], ⟨#[46, 46, 47, 97]⟩⟩]
def headW : List Int := [80, 82, 67, 76, 1, 237, 1, 0, 0, 0, 0, 0, 0, 0, 0, 0, 1, 164, 1, 5, 0, 0, 0, 0, 0, 0, 0, 1, 97, 2, 0, 0, 0, 1, 2, 0, 0, 0, 104, 105, 0, 2, 237, 1, 0, 0, 0, 0, 0, 0, 0, 0, 1, 100, 1, 3, 0, 0, 0, 0, 0, 0, 0, 0, 0, 0, 1, 108, 4, 46, 46, 47, 97, 255]
theorem head_ok : okL (headT.getD 0 default) = true ∧ restB [] true headR = true := by
  constructor <;> kernel_rfl
theorem head_body : bodyP (headT.getD 0 default) headR = headW := by kernel_rfl
theorem head_eq : headT = headT.getD 0 default :: headR := rfl
theorem head_pack : packX headT = (headW ++ le (crcI headW) 4, 0) := by
  rw [head_eq, packX_good rfl rfl head_ok.1 head_ok.2, head_body]
theorem head_read : readX crcI (headW ++ le (crcI headW) 4) = (headT, 0) := by
  have h := read_pack crcI (headT.getD 0 default) headR [] rfl rfl head_ok.1 head_ok.2 (by decide)
  have e : bodyX (headT.getD 0 default) headR = headW := head_body
  rw [e, List.append_nil, if_pos rfl] at h
  exact h
theorem headW_ok : bytesOk headW := by unfold bytesOk; decide

set_option maxRecDepth 100000 in
set_option maxHeartbeats 6400000 in
theorem heads_any (w : World) (hw : Ok w) (hg : 4 ≤ w.heap.size) :
    Calls Tryd.prog 24 #[] w fun e w' => e = .returned (.bool true) ∧ Fr w w' := by
  have hB0 : 0 < w.heap.size := by omega
  obtain ⟨gk, hgk⟩ : ∃ g, w.heap.size = g := ⟨_, rfl⟩
  have hcv := Lib.run_convert_bytes_const (P := Tryd.prog) w 22 5 #[.int .u8 104, .int .u8 105] 2 2 Tryd.underlying22 Tryd.underlying5
  obtain ⟨wk, hwk⟩ : ∃ wk, w.alloc (.cells #[.int .u8 104, .int .u8 105] 5 ((#[.int .u8 104, .int .u8 105] : Array Value).size, (#[.int .u8 104, .int .u8 105] : Array Value).size + 1)) = wk := ⟨_, rfl⟩
  rw [hwk, hgk] at hcv
  have fk : Fr w wk := by rw [← hwk]; exact (Fr.refl hw).alloc _
  have Hk : wk.heap[gk]? = some (.cells #[.int .u8 104, .int .u8 105] 5 (2, 3)) := by rw [← hwk, ← hgk]; exact heap_alloc_new w _
  have hlk : gk < wk.heap.size := (Array.getElem?_eq_some_iff.1 Hk).1
  clear hwk
  obtain ⟨w2, g2, hg2, hw2, f2, hz2, H2⟩ := boxedN fk.ok #[.string ⟨#[47]⟩, .int .i64 2, .int .i64 493, .int .u64 0, .slice none 0 0, .string ⟨#[]⟩, .string ⟨#[47, 97]⟩, .int .i64 1, .int .i64 420, .int .u64 5, .slice (some ⟨gk, 0, none⟩) 2 2, .string ⟨#[]⟩, .string ⟨#[47, 100]⟩, .int .i64 2, .int .i64 493, .int .u64 0, .slice none 0 0, .string ⟨#[]⟩, .string ⟨#[47, 100, 47, 108]⟩, .int .i64 3, .int .i64 0, .int .u64 0, .slice none 0 0, .string ⟨#[46, 46, 47, 97]⟩] 45
  obtain ⟨w3, g3, hg3, hw3, f3, hz3, H3⟩ := boxedN f2.ok #[.int .u8 80, .int .u8 82, .int .u8 67, .int .u8 76, .int .u8 1, .int .u8 237, .int .u8 1, .int .u8 0, .int .u8 0, .int .u8 0, .int .u8 0, .int .u8 0, .int .u8 0, .int .u8 0, .int .u8 0, .int .u8 0, .int .u8 1, .int .u8 164, .int .u8 1, .int .u8 5, .int .u8 0, .int .u8 0, .int .u8 0, .int .u8 0, .int .u8 0, .int .u8 0, .int .u8 0, .int .u8 1, .int .u8 97, .int .u8 2, .int .u8 0, .int .u8 0, .int .u8 0, .int .u8 1, .int .u8 2, .int .u8 0, .int .u8 0, .int .u8 0, .int .u8 104, .int .u8 105, .int .u8 0, .int .u8 2, .int .u8 237, .int .u8 1, .int .u8 0, .int .u8 0, .int .u8 0, .int .u8 0, .int .u8 0, .int .u8 0, .int .u8 0, .int .u8 0, .int .u8 1, .int .u8 100, .int .u8 1, .int .u8 3, .int .u8 0, .int .u8 0, .int .u8 0, .int .u8 0, .int .u8 0, .int .u8 0, .int .u8 0, .int .u8 0, .int .u8 0, .int .u8 0, .int .u8 1, .int .u8 108, .int .u8 4, .int .u8 46, .int .u8 46, .int .u8 47, .int .u8 97, .int .u8 255] 5
  have f23 := f2.trans f3
  have fw3 := fk.trans f23
  have hBk : BytesAt w3 (some ⟨gk, 0, none⟩) [104, 105] := by
    refine .inr ⟨gk, 0, rfl, Nat.lt_of_lt_of_le hlk f23.size, fun i y hy => f23.cell ?_⟩
    rw [Nat.zero_add]
    refine blk_cell Hk ?_
    have hi : i < 2 := (List.getElem?_eq_some_iff.1 hy).1
    rcases (by omega : i = 0 ∨ i = 1) with rfl | rfl <;> (simp at hy; subst hy; rfl)
  have hBW : BytesAt w3 (some ⟨g3, 0, none⟩) headW := by
    refine .inr ⟨g3, 0, rfl, hz3, fun i y hy => ?_⟩
    rw [Nat.zero_add]
    refine blk_cell H3 ?_
    have h := congrArg (Option.map (Value.int .u8)) hy
    rw [← List.getElem?_map] at h
    simpa [headW] using h
  obtain ⟨tv, htv⟩ : ∃ tv : List (Lf × Value), tv = [(⟨⟨#[47]⟩, 2, 493, 0, [], ⟨#[]⟩⟩, .slice none 0 0), (⟨⟨#[47, 97]⟩, 1, 420, 5, [104, 105], ⟨#[]⟩⟩, .slice (some ⟨gk, 0, none⟩) 2 2), (⟨⟨#[47, 100]⟩, 2, 493, 0, [], ⟨#[]⟩⟩, .slice none 0 0), (⟨⟨#[47, 100, 47, 108]⟩, 3, 0, 0, [], ⟨#[46, 46, 47, 97]⟩⟩, .slice none 0 0)] := ⟨_, rfl⟩
  have htf : tv.map Prod.fst = headT := by rw [htv]; rfl
  have htl : tv.length = 4 := by rw [htv]; rfl
  have hLA : LAt w3 (some ⟨g2, 0, none⟩) tv := by
    rw [htv]
    refine ⟨.inr ⟨g2, 0, rfl, Nat.lt_of_lt_of_le hz2 f3.size, fun i c hi j v hj hv => f3.cell ?_⟩, fun p hp => ?_⟩
    · rw [Nat.zero_add]
      refine blk_cell H2 ?_
      have hi4 : i < 4 := (List.getElem?_eq_some_iff.1 hi).1
      rcases (by omega : i = 0 ∨ i = 1 ∨ i = 2 ∨ i = 3) with rfl | rfl | rfl | rfl <;>
        (simp only [List.map_cons, List.map_nil, List.getElem?_cons_zero, List.getElem?_cons_succ, Option.some.injEq] at hi; subst hi; rcases (by omega : j = 0 ∨ j = 1 ∨ j = 2 ∨ j = 3 ∨ j = 4 ∨ j = 5) with rfl | rfl | rfl | rfl | rfl | rfl <;> exact hv)
    · rcases List.mem_cons.1 hp with rfl | hp
      · exact ⟨none, 0, rfl, .inl rfl, Nat.le_refl _, fun _ => rfl⟩
      · rcases List.mem_cons.1 hp with rfl | hp
        · exact ⟨some ⟨gk, 0, none⟩, 2, rfl, hBk, Nat.le_refl _, fun e => by cases e⟩
        · rcases List.mem_cons.1 hp with rfl | hp
          · exact ⟨none, 0, rfl, .inl rfl, Nat.le_refl _, fun _ => rfl⟩
          · obtain rfl := List.mem_singleton.1 hp
            exact ⟨none, 0, rfl, .inl rfl, Nat.le_refl _, fun _ => rfl⟩
  have hprop : (∀ p ∈ tv, p.1.path.size ≤ 1048575) ∧ (∀ p ∈ tv, 0 ≤ p.1.stamp ∧ p.1.stamp ≤ 18446744073709551615) ∧ (tv.map fun p => 256 + 6 * p.1.data.length).sum ≤ 536870912 ∧ (∀ p ∈ tv, bytesOk p.1.data) := by
    have h : (∀ l ∈ headT, l.path.size ≤ 1048575) ∧ (∀ l ∈ headT, 0 ≤ l.stamp ∧ l.stamp ≤ 18446744073709551615) ∧ (headT.map fun l => 256 + 6 * l.data.length).sum ≤ 536870912 ∧ (∀ l ∈ headT, bytesOk l.data) := by
      refine ⟨by decide, by decide, by decide, by unfold bytesOk; decide⟩
    rw [← htf] at h
    refine ⟨fun p hp => h.1 p.1 (List.mem_map_of_mem hp), fun p hp => h.2.1 p.1 (List.mem_map_of_mem hp), ?_, fun p hp => h.2.2.2 p.1 (List.mem_map_of_mem hp)⟩
    have := h.2.2.1
    rw [List.map_map] at this
    exact this
  have hPk := pack_any (some ⟨g2, 0, none⟩) 4 tv w3 fw3.ok hLA (by omega) (by omega) hprop.1 hprop.2.1 hprop.2.2.1 hprop.2.2.2 (by have := fw3.size; omega)
  rw [htf, head_pack, htl] at hPk
  obtain ⟨RW, hRW⟩ : ∃ R, headW ++ le (crcI headW) 4 = R := ⟨_, rfl⟩
  have hrl : RW.length = 78 := by rw [← hRW, List.length_append, le_length]; rfl
  have hrb : bytesOk RW := by rw [← hRW]; exact bytesOk_app headW_ok (le_mem _ _)
  have hrd := head_read
  rw [hRW] at hPk hrd
  have HSe := Lib.hid (fun W (q : Fr w3 W) => by
    have := sealed18_any (some ⟨g3, 0, none⟩) 74 headW headW_ok (by decide) (by decide) (fun e => by cases e) W q.ok (hBW.fr q)
    rw [hRW] at this
    exact this)
  have HRe := Lib.hid (fun W (q : Fr w3 W) A c (h1 : BytesAt W A RW) (h2 : RW.length ≤ c) => pread_any A c RW W q.ok h1 hrb h2 (by omega) (by have := fw3.size; have := q.size; omega))
  rw [hrd] at HRe
  have HAl := Lib.hid (fun W (v : Value) (B : Nat) (q : Fr w3 W) (h : TreeAt W B v headT) => by
    have := alike_in q.ok h (hLA.fr q) (c := 4) (by omega) htf (by decide) (fun p hp => by
      have h9 : ∀ l ∈ headT, l.data.length ≤ 1099511627776 := by decide
      exact h9 p.1 (by rw [← htf]; exact List.mem_map_of_mem hp))
    rw [htl] at this
    exact this)
  have HPk := Lib.hid hPk
  have HLA := Lib.hid (And.intro hLA (And.intro htf htl))
  have HF := Lib.hid fw3
  have HRL := Lib.hid hrl
  have hE0 : ((0 : Int) != 0) = false := rfl
  clear hPk hLA hRW hrl hrd hprop hBW hBk hrb fw3 htv htf htl
  go_enter Tryd.func24, Tryd.ntmps24
  go_wp2_with (first
    | (go_at_call 21; refine HPk.out.mono ?_; rintro e w4 ⟨v4, rfl, O4, q⟩; go_loud (obtain ⟨a4, d4, rfl⟩ := O4.form))
    | (go_at_call 16; refine (no_any 0 _ q.ok).mono ?_; rintro e w9 ⟨rfl, q9⟩; replace T8' := TreeAt.fr T8' q9; replace q := q.trans q9; clear q9)
    | (go_at_call 16; refine (no_any 0 _ q.ok).mono ?_; rintro e w5 ⟨rfl, q5⟩; replace O4 := OwnB.fr O4 q5; replace q := q.trans q5; clear q5)
    | (go_at_call 25; refine (HSe.out _ q).mono ?_; rintro e w6 ⟨a6, d6, rfl, O6, q6⟩; replace O4 := OwnB.fr O4 q6; replace q := q.trans q6; clear q6)
    | (go_at_call 22; refine (same_true q.ok O4.at.1 O6.at.1 O4.at.2.2 O6.at.2.2 (by have := HRL.out; omega)).mono ?_; rintro e w7 ⟨rfl, q7⟩; replace O4 := OwnB.fr O4 q7; replace q := q.trans q7; clear q7)
    | (go_at_call 15; refine (HRe.out _ q _ _ O4.at.1 O4.at.2.2).mono ?_; rintro e w8 ⟨v8, rfl, q8, T8⟩; replace q := q.trans q8; (obtain ⟨B8, T8'⟩ : ∃ B, TreeAt w8 B v8 headT := ⟨_, T8⟩); clear T8 q8)
    | (go_at_call 17; refine (HAl.out _ _ _ q T8').mono ?_; rintro e w9 ⟨rfl, q9⟩; replace q := q.trans q9; clear q9))
  exact ⟨rfl, _, results_tmp rfl _ _ _, rfl, HF.out.trans q⟩
end Go.Proofs.YtlnaeppbhjmocaaDoor
set_option linter.unusedSimpArgs false
set_option linter.unusedVariables false
namespace Go.Proofs.YtlnaeppbhjmocaaDoor
open Go.RowKit Go.Proofs

theorem readX_ok {crc : List Int → Int} {L : List Int} {t : List Lf} (h : readX crc L = (t, 0)) (ht : t ≠ []) : headB L = true ∧ ∃ j, treeR L (numX L 2 0 4095 (.ok 5)) (numX L 8 0 18446744073709551615 (numX L 2 0 4095 (.ok 5)).2) = (t, .ok j) ∧ j + 5 = L.length ∧ L.drop (j + 1) = le (crc (L.take (j + 1))) 4 := by
  unfold readX at h
  split at h
  · rename_i h1
    refine ⟨h1, ?_⟩
    rw [endX_E] at h
    obtain ⟨tr, htr⟩ : ∃ tr, treeR L (numX L 2 0 4095 (.ok 5)) (numX L 8 0 18446744073709551615 (numX L 2 0 4095 (.ok 5)).2) = tr := ⟨_, rfl⟩
    rw [htr] at h
    cases ho : (takeX L 4 (takeX L 1 tr.2).2).2 with
    | error e =>
      rw [ho] at h
      simp only [endE, Prod.mk.injEq] at h
      exact absurd h.1.symm ht
    | ok k =>
      rw [ho] at h
      simp only [endE] at h
      split at h
      · rename_i h2
        split at h
        · simp only [Prod.mk.injEq] at h; exact absurd h.1.symm ht
        · rename_i h3
          obtain ⟨i, e1, e2, e3⟩ := takeX_on ho
          obtain ⟨j, f1, f2, f3⟩ := takeX_on e1
          refine ⟨j, ?_, by omega, ?_⟩
          · rw [htr, ← f1]
            simp only [Prod.mk.injEq] at h
            rw [← h.1]
          · rw [e1] at h2
            have hk : k - 4 = j + 1 := by omega
            rw [hk] at h2
            rw [← h2]
            simp only [takeX]
            rw [if_pos (by omega), f2]
            exact (List.take_of_length_le (by rw [List.length_drop]; omega)).symm
      · simp only [Prod.mk.injEq] at h; exact absurd h.1.symm ht
  · simp only [Prod.mk.injEq] at h
    exact absurd h.1.symm ht
theorem take_pre {L : List Int} {n m i j : Nat} (h : (takeX L m (.ok i)).2 = .ok j) : (takeX (L.take n) m (.ok i) = takeX L m (.ok i) ∧ j ≤ n) ∨ takeX (L.take n) m (.ok i) = ([], .error 190) := by
  obtain ⟨i', e1, e2, e3⟩ := takeX_on h
  injection e1 with e1
  subst e1
  simp only [takeX]
  by_cases hn : i + m ≤ n
  · left
    rw [if_pos (by rw [List.length_take]; omega), if_pos (by omega), List.drop_take, List.take_take, Nat.min_eq_left (by omega)]
    exact ⟨rfl, by omega⟩
  · right
    rw [if_neg (by rw [List.length_take]; omega)]
theorem num_pre {L : List Int} {n m i j : Nat} {lo hi : Int} (h : (numX L m lo hi (.ok i)).2 = .ok j) : (numX (L.take n) m lo hi (.ok i) = numX L m lo hi (.ok i) ∧ j ≤ n) ∨ numX (L.take n) m lo hi (.ok i) = (0, .error 190) := by
  cases ht : takeX L m (.ok i) with
  | mk bs o =>
    cases o with
    | error e => unfold numX at h; rw [ht] at h; cases h
    | ok j' =>
      have hj : j' = j := by
        unfold numX at h
        rw [ht] at h
        dsimp only at h
        split at h <;> injection h
      subst hj
      rcases take_pre (n := n) (m := m) (i := i) (j := j') (by rw [ht]) with ⟨e1, e2⟩ | e1
      · left
        refine ⟨?_, e2⟩
        unfold numX
        rw [e1]
      · right
        unfold numX
        rw [e1]
theorem orFail_e {e : Int} {b : Bool} : orFail (.error e) b = .error e := rfl
theorem data_pre {L : List Int} {n : Nat} {N : Int} : ∀ (f : Nat) (told : Int) (out : List Int) (last : Int) (i j : Nat), i ≤ n → (dataX L false N f told out last (.ok i)).2 = .ok j →
    (dataX (L.take n) false N f told out last (.ok i) = dataX L false N f told out last (.ok i) ∧ j ≤ n) ∨ (dataX (L.take n) false N f told out last (.ok i)).2 = .error 190 := by
  intro f
  induction f with
  | zero =>
    intro told out last i j hi h
    simp only [dataX] at h ⊢
    injection h with h
    exact .inl ⟨trivial, by omega⟩
  | succ f ih =>
    intro told out last i j hi h
    simp only [dataX] at h ⊢
    by_cases ht : told < N
    · rw [if_pos ht] at h
      rw [if_pos ht, if_pos ht]
      obtain ⟨a, ha⟩ : ∃ a, numX L 1 0 1 (.ok i) = a := ⟨_, rfl⟩
      rw [ha] at h
      rw [ha]
      cases ha2 : a.2 with
      | error e =>
        exfalso
        rw [ha2, orFail_e, numX_error] at h
        cases h
      | ok i2 =>
        rw [ha2] at h
        rcases num_pre (n := n) (m := 1) (lo := 0) (hi := 1) (i := i) (j := i2) (by rw [ha]; exact ha2) with ⟨e1, e2⟩ | e1
        · rw [e1, ha, ha2]
          cases ho : orFail (.ok i2) (decide (a.1 = last)) with
          | error e =>
            exfalso
            rw [ho, numX_error] at h
            cases h
          | ok i3 =>
            have hi3 : i3 = i2 := by
              unfold orFail at ho
              dsimp only at ho
              split at ho
              · cases ho
              · injection ho with ho; exact ho.symm
            subst hi3
            rw [ho] at h
            obtain ⟨k, hk⟩ : ∃ k, numX L 4 (if a.1 = 0 then 16 else 1) (N - told) (.ok i3) = k := ⟨_, rfl⟩
            rw [hk] at h
            cases hk2 : k.2 with
            | error e => exfalso; rw [hk2] at h; cases h
            | ok i4 =>
              rcases num_pre (n := n) (m := 4) (lo := if a.1 = 0 then 16 else 1) (hi := N - told) (i := i3) (j := i4) (by rw [hk]; exact hk2) with ⟨g1, g2⟩ | g1
              · rw [g1, hk]
                rw [hk2] at h ⊢
                dsimp only at h ⊢
                by_cases h1 : a.1 = 1
                · rw [if_pos h1] at h
                  rw [if_pos h1, if_pos h1]
                  obtain ⟨t, htt⟩ : ∃ t, takeX L k.1.toNat (.ok i4) = t := ⟨_, rfl⟩
                  rw [htt] at h
                  cases ht2 : t.2 with
                  | error e => exfalso; rw [ht2, orFail_e, dataX_error] at h; cases h
                  | ok i5 =>
                    rcases take_pre (n := n) (m := k.1.toNat) (i := i4) (j := i5) (by rw [htt]; exact ht2) with ⟨q1, q2⟩ | q1
                    · rw [q1, htt]
                      rw [ht2] at h ⊢
                      cases ho2 : orFail (.ok i5) (!filledB t.1 (decide (last = 0)) (decide (told + k.1 < N))) with
                      | error e => exfalso; rw [ho2, dataX_error] at h; cases h
                      | ok i6 =>
                        have hi6 : i6 = i5 := by
                          unfold orFail at ho2
                          dsimp only at ho2
                          split at ho2
                          · cases ho2
                          · injection ho2 with ho2; exact ho2.symm
                        subst hi6
                        rw [ho2] at h
                        exact ih _ _ _ _ _ q2 h
                    · right
                      rw [q1, orFail_e, dataX_error]
                · rw [if_neg h1] at h
                  rw [if_neg h1, if_neg h1]
                  exact ih _ _ _ _ _ g2 h
              · right
                rw [g1]
        · right
          rw [e1, orFail_e, numX_error]
    · rw [if_neg ht] at h
      rw [if_neg ht, if_neg ht]
      injection h with h
      exact .inl ⟨rfl, by omega⟩
theorem leaf_pre {L : List Int} {n : Nat} {ahead : List ByteArray} {dir : Bool} {i j : Nat} (hi : i ≤ n) (h : (leafX gtB L false ahead dir (.ok i)).2 = .ok j) :
    (leafX gtB (L.take n) false ahead dir (.ok i) = leafX gtB L false ahead dir (.ok i) ∧ j ≤ n) ∨ (leafX gtB (L.take n) false ahead dir (.ok i)).2 = .error 190 := by
  obtain ⟨P, hP⟩ : ∃ P, L.take n = P := ⟨_, rfl⟩
  have hk := fun j => num_pre (j := j) (L := L) (n := n) (m := 1) (lo := 0) (hi := mostX ahead dir) (i := i)
  rw [hP] at hk ⊢
  unfold leafX at h ⊢
  obtain ⟨k, hke⟩ : ∃ k, numX L 1 0 (mostX ahead dir) (.ok i) = k := ⟨_, rfl⟩
  rw [hke] at h hk ⊢
  dsimp only at h ⊢
  have err5 : ∀ (x : Int) (a1 a2 a3 : Int), True := fun _ _ _ _ => trivial
  cases hk2 : k.2 with
  | error e =>
    exfalso
    rw [hk2] at h
    simp only [numX_error, takeX_error] at h
    cases h
  | ok i1 =>
    rw [hk2] at h
    rcases hk i1 hk2 with ⟨a1, a2⟩ | a1
    · rw [a1, hk2]
      have hty := fun j => num_pre (j := j) (L := L) (n := n) (m := 1) (lo := 1) (hi := 3) (i := i1)
      rw [hP] at hty
      obtain ⟨ty, htye⟩ : ∃ k, numX L 1 1 3 (.ok i1) = k := ⟨_, rfl⟩
      rw [htye] at h hty ⊢
      cases hty2 : ty.2 with
      | error e =>
        exfalso
        rw [hty2] at h
        simp only [numX_error, takeX_error] at h
        cases h
      | ok i2 =>
        rw [hty2] at h
        rcases hty i2 hty2 with ⟨b1, b2⟩ | b1
        · rw [b1, hty2]
          have hmo := fun j => num_pre (j := j) (L := L) (n := n) (m := 2) (lo := 0) (hi := 4095) (i := i2)
          rw [hP] at hmo
          obtain ⟨mo, hmoe⟩ : ∃ k, numX L 2 0 4095 (.ok i2) = k := ⟨_, rfl⟩
          rw [hmoe] at h hmo ⊢
          cases hmo2 : mo.2 with
          | error e =>
            exfalso
            rw [hmo2] at h
            simp only [numX_error, takeX_error] at h
            cases h
          | ok i3 =>
            rw [hmo2] at h
            rcases hmo i3 hmo2 with ⟨c1, c2⟩ | c1
            · rw [c1, hmo2]
              have hst := fun j => num_pre (j := j) (L := L) (n := n) (m := 8) (lo := 0) (hi := 18446744073709551615) (i := i3)
              rw [hP] at hst
              obtain ⟨st, hste⟩ : ∃ k, numX L 8 0 18446744073709551615 (.ok i3) = k := ⟨_, rfl⟩
              rw [hste] at h hst ⊢
              cases hst2 : st.2 with
              | error e =>
                exfalso
                rw [hst2] at h
                simp only [numX_error, takeX_error] at h
                cases h
              | ok i4 =>
                rw [hst2] at h
                rcases hst i4 hst2 with ⟨d1, d2⟩ | d1
                · rw [d1, hst2]
                  have hnl := fun j => num_pre (j := j) (L := L) (n := n) (m := 1) (lo := 1) (hi := 63) (i := i4)
                  rw [hP] at hnl
                  obtain ⟨nl, hnle⟩ : ∃ k, numX L 1 1 63 (.ok i4) = k := ⟨_, rfl⟩
                  rw [hnle] at h hnl ⊢
                  cases hnl2 : nl.2 with
                  | error e =>
                    exfalso
                    rw [hnl2] at h
                    simp only [takeX_error] at h
                    cases h
                  | ok i5 =>
                    rw [hnl2] at h
                    rcases hnl i5 hnl2 with ⟨e1, e2⟩ | e1
                    · rw [e1, hnl2]
                      have hnm := fun j => take_pre (j := j) (L := L) (n := n) (m := nl.1.toNat) (i := i5)
                      rw [hP] at hnm
                      obtain ⟨nm, hnme⟩ : ∃ k, takeX L nl.1.toNat (.ok i5) = k := ⟨_, rfl⟩
                      rw [hnme] at h hnm ⊢
                      cases hnm2 : nm.2 with
                      | error e =>
                        exfalso
                        rw [hnm2] at h
                        cases h
                      | ok i6 =>
                        rw [hnm2] at h
                        rcases hnm i6 hnm2 with ⟨f1, f2⟩ | f1
                        · rw [f1, hnm2]
                          dsimp only at h ⊢
                          split at h
                          · cases h
                          · rename_i hbad
                            rw [if_neg hbad]
                            by_cases ty1 : ty.1 = 1
                            · rw [if_pos ty1] at h
                              rw [if_pos ty1, if_pos ty1]
                              have hn := fun j => num_pre (j := j) (L := L) (n := n) (m := 4) (lo := 0) (hi := 16777216) (i := i6)
                              rw [hP] at hn
                              obtain ⟨nn, hnne⟩ : ∃ k, numX L 4 0 16777216 (.ok i6) = k := ⟨_, rfl⟩
                              rw [hnne] at h hn ⊢
                              cases hnn2 : nn.2 with
                              | error e =>
                                exfalso
                                unfold dataR at h
                                rw [hnn2, dataX_error] at h
                                cases h
                              | ok i7 =>
                                rw [hnn2] at h
                                rcases hn i7 hnn2 with ⟨g1, g2⟩ | g1
                                · rw [g1, hnn2]
                                  unfold dataR at h ⊢
                                  have hd := data_pre (L := L) (n := n) (nn.1.toNat + 1) 0 [] (-1) i7 j g2 h
                                  rw [hP] at hd
                                  rcases hd with ⟨q1, q2⟩ | q1
                                  · left; exact ⟨by rw [q1, if_neg hbad], q2⟩
                                  · right; exact q1
                                · right
                                  rw [g1]
                                  unfold dataR
                                  rw [dataX_error]
                            · rw [if_neg ty1] at h
                              rw [if_neg ty1, if_neg ty1]
                              by_cases ty3 : ty.1 = 3
                              · rw [if_pos ty3] at h
                                rw [if_pos ty3, if_pos ty3]
                                have hn := fun j => num_pre (j := j) (L := L) (n := n) (m := 1) (lo := 1) (hi := 127) (i := i6)
                                rw [hP] at hn
                                obtain ⟨nn, hnne⟩ : ∃ k, numX L 1 1 127 (.ok i6) = k := ⟨_, rfl⟩
                                rw [hnne] at h hn ⊢
                                cases hnn2 : nn.2 with
                                | error e =>
                                  exfalso
                                  rw [hnn2, takeX_error, orFail_e] at h
                                  cases h
                                | ok i7 =>
                                  rw [hnn2] at h
                                  rcases hn i7 hnn2 with ⟨g1, g2⟩ | g1
                                  · rw [g1, hnn2]
                                    have ht := fun j => take_pre (j := j) (L := L) (n := n) (m := nn.1.toNat) (i := i7)
                                    rw [hP] at ht
                                    obtain ⟨tt, htte⟩ : ∃ k, takeX L nn.1.toNat (.ok i7) = k := ⟨_, rfl⟩
                                    rw [htte] at h ht ⊢
                                    cases htt2 : tt.2 with
                                    | error e =>
                                      exfalso
                                      rw [htt2, orFail_e] at h
                                      cases h
                                    | ok i8 =>
                                      rw [htt2] at h
                                      have hij : i8 = j := by
                                        unfold orFail at h
                                        dsimp only at h
                                        split at h
                                        · cases h
                                        · injection h
                                      rcases ht i8 htt2 with ⟨q1, q2⟩ | q1
                                      · left; exact ⟨by rw [q1, htt2, if_neg hbad], by omega⟩
                                      · right; rw [q1]; rfl
                                  · right
                                    rw [g1, takeX_error]; rfl
                              · rw [if_neg ty3] at h
                                rw [if_neg ty3, if_neg ty3]
                                injection h with h
                                left
                                exact ⟨by rw [if_neg hbad], by omega⟩
                        · right
                          rw [f1]
                    · right
                      rw [e1, takeX_error]
                · right
                  rw [d1]
                  simp only [numX_error, takeX_error]
            · right
              rw [c1]
              simp only [numX_error, takeX_error]
        · right
          rw [b1]
          simp only [numX_error, takeX_error]
    · right
      rw [a1]
      simp only [numX_error, takeX_error]
theorem treeX_err (L : List Int) (f : Nat) (acc : List Lf) (ahead : List ByteArray) (dir : Bool) (e : Int) : treeX gtB L false f acc ahead dir (.error e) = (acc, .error e) := by
  cases f <;> rfl
theorem tree_pre2 {L : List Int} {n : Nat} (hn : n ≤ L.length) : ∀ (f g : Nat) (acc acc' : List Lf) (ahead : List ByteArray) (dir : Bool) (i j : Nat), i ≤ n → n < i + g → L.length < i + f → (treeX gtB L false f acc ahead dir (.ok i)).2 = .ok j →
    (treeX gtB (L.take n) false g acc' ahead dir (.ok i)).2 = .error 190 ∨ (∃ k, (treeX gtB (L.take n) false g acc' ahead dir (.ok i)).2 = .ok k ∧ (k = n ∨ k = j)) := by
  intro f
  induction f with
  | zero => intro g acc acc' ahead dir i j hi hg hf h; omega
  | succ f ih =>
    intro g acc acc' ahead dir i j hi hg hf h
    obtain ⟨g, rfl⟩ : ∃ m, g = m + 1 := ⟨g - 1, by omega⟩
    simp only [treeX] at h ⊢
    by_cases hin : i < n
    · have hlt : i < L.length := by omega
      have hgd : (L.take n).getD i 0 = L.getD i 0 := by
        simp [List.getD, hin]
      by_cases hc : L.getD i 0 ≠ 255
      · rw [if_pos ⟨hlt, hc⟩] at h
        rw [if_pos ⟨by rw [List.length_take]; omega, by rw [hgd]; exact hc⟩]
        cases hl : (leafX gtB L false ahead dir (.ok i)).2 with
        | error e => exfalso; rw [hl, treeX_err] at h; cases h
        | ok i2 =>
          obtain ⟨i', e1, e2, e3⟩ := leafX_on hl
          injection e1 with e1
          subst e1
          rcases leaf_pre (n := n) hi hl with ⟨q1, q2⟩ | q1
          · rw [q1, hl]
            rw [hl] at h
            exact ih g _ _ _ _ i2 j q2 (by omega) (by omega) h
          · left
            rw [q1, treeX_err]
      · rw [if_neg (fun e => hc e.2)] at h
        rw [if_neg (fun e => hc (by rw [← hgd]; exact e.2))]
        injection h with h
        exact .inr ⟨i, rfl, .inr h⟩
    · rw [if_neg (by rw [List.length_take]; omega)]
      exact .inr ⟨i, rfl, .inl (by omega)⟩
theorem headB_len5 {L : List Int} (h : headB L = true) : 5 ≤ L.length := by
  unfold headB at h
  simp only [Bool.and_eq_true, decide_eq_true_eq] at h
  exact h.1
/-- a beginning of a row that was read well is none -/
theorem read_pre {crc : List Int → Int} {L : List Int} {t : List Lf} (h : readX crc L = (t, 0)) (ht : t ≠ []) {n : Nat} (hn : n < L.length) : readX crc (L.take n) = ([], 190) := by
  obtain ⟨h1, j, h2, h3, h4⟩ := readX_ok h ht
  have h5 := headB_len5 h1
  unfold readX
  by_cases hn5 : headB (L.take n) = true
  · have hn6 := headB_len5 hn5
    rw [List.length_take] at hn6
    rw [if_pos hn5, endX_E]
    have fin : ∀ (o : Er) (T : List Lf), (o = .error 190 ∨ ∃ k, o = .ok k ∧ (k = n ∨ k = j)) → endE crc (L.take n) T (takeX (L.take n) 4 (takeX (L.take n) 1 o).2).1 (takeX (L.take n) 4 (takeX (L.take n) 1 o).2).2 = ([], 190) := by
      intro o T ho
      rcases ho with rfl | ⟨k, rfl, hk⟩
      · rfl
      · have hlen : (L.take n).length = n := by rw [List.length_take]; omega
        by_cases hk1 : k + 1 ≤ n
        · have e1 : takeX (L.take n) 1 (.ok k) = (((L.take n).drop k).take 1, .ok (k + 1)) := by
            simp only [takeX]; rw [if_pos (by omega)]
          have e2 : takeX (L.take n) 4 (.ok (k + 1)) = ([], .error 190) := by
            simp only [takeX]; rw [if_neg (by omega)]
          rw [e1]
          dsimp only
          rw [e2]
          rfl
        · have e1 : takeX (L.take n) 1 (.ok k) = ([], .error 190) := by
            simp only [takeX]; rw [if_neg (by omega)]
          rw [e1]
          rfl
    refine fin _ _ ?_
    unfold treeR at h2 ⊢
    cases hm : (numX L 2 0 4095 (.ok 5)).2 with
    | error e =>
      exfalso
      rw [hm, numX_error, treeX_err] at h2
      cases h2
    | ok i1 =>
      rw [hm] at h2
      rcases num_pre (n := n) hm with ⟨a1, a2⟩ | a1
      · rw [a1, hm]
        cases hs : (numX L 8 0 18446744073709551615 (.ok i1)).2 with
        | error e =>
          exfalso
          rw [hs, treeX_err] at h2
          cases h2
        | ok i2 =>
          rw [hs] at h2
          rcases num_pre (n := n) hs with ⟨b1, b2⟩ | b1
          · rw [b1, hs]
            exact tree_pre2 (by omega) (L.length + 1) ((L.take n).length + 1) _ _ _ _ i2 j b2 (by rw [List.length_take]; omega) (by omega) (by rw [h2])
          · left
            rw [b1, treeX_err]
      · left
        rw [a1]
        dsimp only
        rw [numX_error, treeX_err]
  · rw [if_neg hn5]
end Go.Proofs.YtlnaeppbhjmocaaDoor
