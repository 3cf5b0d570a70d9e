/- The program's reader of a file's data (parcel.reader.data): dataR, or it gives up with its error. -/
import Derived.Test.YtlnaeppbhjmocaaDoorS4
import Derived.Laws.BitsLemmas
import Derived.Deep.CutBlock
import Derived.Test.YtlnaeppbhjmocaaDoorCards
import Derived.Test.YtlnaeppbhjmocaaDoorTie
import Derived.ProofKit
import Derived.WideShapes
import Derived.Deep.DeepHandedRow
import Derived.Lib.LaidU8
import Derived.Lib.LaidTab
import Derived.OpenShut
import Derived.Deep.Slices
import Derived.Laws.Bits64b
import Derived.Deep.DeepCutAuto
set_option linter.unusedSectionVars false
set_option linter.unnecessarySimpa false
set_option linter.unusedSimpArgs false
set_option linter.unusedVariables false
set_option linter.unusedSimpArgs false
set_option linter.unusedVariables false
namespace Go.Proofs.YtlnaeppbhjmocaaDoor
open Go.RowKit Go.Proofs Go.Proofs.YtlnaeppbhjmocaaDoorW.PrintWords Go.Proofs.YtlnaeppbhjmocaaDoorW.PrintLast Go.Proofs.YtlnaeppbhjmocaaDoorW.PrintMore

def crcIt : Nat → Nat → Nat
  | 0, x => x
  | n + 1, x => crcIt n (crcBit x)
def crcByte (x : Nat) (b : Int) : Nat := crcIt 8 (x ^^^ b.toNat)
def crcReg : List Int → Nat → Nat
  | [], x => x
  | b :: r, x => crcReg r (crcByte x b)
/-- the check sum -/
def crcN (L : List Int) : Nat := crcReg L 4294967295 ^^^ 4294967295
def crcI (L : List Int) : Int := (crcN L : Int)
theorem crcBit_lt {x : Nat} (h : x < 4294967296) : crcBit x < 4294967296 := by
  unfold crcBit
  split
  · exact Nat.xor_lt_two_pow (n := 32) (by omega) (by decide)
  · omega
theorem crcIt_lt {n x : Nat} (h : x < 4294967296) : crcIt n x < 4294967296 := by
  induction n generalizing x with
  | zero => exact h
  | succ n ih => exact ih (crcBit_lt h)
theorem xor_byte_lt {x : Nat} {b : Int} (h : x < 4294967296) (hb : 0 ≤ b ∧ b ≤ 255) : x ^^^ b.toNat < 4294967296 := Nat.xor_lt_two_pow (n := 32) h (by omega)
theorem crcByte_lt {x : Nat} {b : Int} (h : x < 4294967296) (hb : 0 ≤ b ∧ b ≤ 255) : crcByte x b < 4294967296 := crcIt_lt (xor_byte_lt h hb)
theorem crcReg_lt {L : List Int} (hL : bytesOk L) : ∀ {x : Nat}, x < 4294967296 → crcReg L x < 4294967296 := by
  induction L with
  | nil => exact fun h => h
  | cons b r ih => exact fun h => ih (fun x hx => hL x (List.mem_cons_of_mem _ hx)) (crcByte_lt h (hL b List.mem_cons_self))
theorem crcN_lt {L : List Int} (hL : bytesOk L) : crcN L < 4294967296 := Nat.xor_lt_two_pow (n := 32) (crcReg_lt hL (by decide)) (by decide)
theorem crcI_rg {L : List Int} (hL : bytesOk L) : 0 ≤ crcI L ∧ crcI L ≤ 4294967295 := by have := crcN_lt hL; unfold crcI; omega
theorem xor32 (a b : Nat) (ha : a < 4294967296) (hb : b < 4294967296) : Go.bits .xor .u32 a b = ((a ^^^ b : Nat) : Int) := by
  have hp : (2 : Nat) ^ IntKind.u32.bits = 4294967296 := rfl
  have ha' : a % 2 ^ IntKind.u32.bits = a := Nat.mod_eq_of_lt ha
  have hb' : b % 2 ^ IntKind.u32.bits = b := Nat.mod_eq_of_lt hb
  simp only [Go.bits, BitVec.ofInt_natCast, BitVec.toNat_xor, BitVec.toNat_ofNat, ha', hb']
  have := Nat.xor_lt_two_pow (n := 32) ha hb
  rw [IntKind.wrap_u32]; omega
theorem and32 (a : Nat) (ha : a < 4294967296) : Go.bits .and .u32 (a : Int) 15 = ((a % 16 : Nat) : Int) := by
  have h := (bits_nat .u32 32 (by decide) (fun n h0 h1 => by rw [IntKind.wrap_u32]; omega) a 15 ha (by decide)).1
  have h2 : a &&& 15 = a % 16 := Nat.and_two_pow_sub_one_eq_mod a 4
  rw [h2] at h
  exact h
/-! ### The program's sum -/
theorem crc8_tab (x : Nat) : crcIt 8 x = (x / 16 ^^^ crcTab.getD (x % 16) 0) / 16 ^^^ crcTab.getD ((x / 16 ^^^ crcTab.getD (x % 16) 0) % 16) 0 := by
  have h1 := crc_four x
  have h2 := crc_four (x / 16 ^^^ crcTab.getD (x % 16) 0)
  show crcBit (crcBit (crcBit (crcBit (crcBit (crcBit (crcBit (crcBit x))))))) = _
  rw [h1, h2]
theorem tab_lt (i : Nat) : crcTab.getD i 0 < 4294967296 := by
  by_cases h : i < 16
  · have : ∀ i, i < 16 → crcTab.getD i 0 < 4294967296 := by decide
    exact this i h
  · rw [List.getD_eq_getElem?_getD, List.getElem?_eq_none (by simp [crcTab]; omega)]; decide
theorem fours_cell {w : World} (hw : Ok w) (i : Nat) (h : i < 16) : w.cell? ⟨0, i, none⟩ = some (.int .u32 (crcTab.getD i 0)) := by
  have hf := hw.fours
  simp only [World.var?, gFours, Option.bind_some] at hf
  split at hf
  · rename_i cs t fz heq
    injection hf with hf
    subst hf
    simp only [World.cell?, heq]
    show foursTab[i]? = some (.int .u32 (crcTab.getD i 0))
    rcases (by omega : i = 0 ∨ i = 1 ∨ i = 2 ∨ i = 3 ∨ i = 4 ∨ i = 5 ∨ i = 6 ∨ i = 7 ∨ i = 8 ∨ i = 9 ∨ i = 10 ∨ i = 11 ∨ i = 12 ∨ i = 13 ∨ i = 14 ∨ i = 15) with rfl | rfl | rfl | rfl | rfl | rfl | rfl | rfl | rfl | rfl | rfl | rfl | rfl | rfl | rfl | rfl <;> rfl
  · cases hf
set_option maxHeartbeats 3200000 in
set_option maxRecDepth 100000 in
theorem sum_any (A : Option Addr) (c : Nat) (L : List Int) (hb : bytesOk L) (hc : L.length ≤ c) (hL : L.length ≤ 1073741824) (w : World) (hw : Ok w) (hA : BytesAt w A L) :
    Calls Tryd.prog 40 #[.slice A L.length c] w fun e w' => e = .returned (.int .u32 (crcI L)) ∧ w' = w := by
  have HC : Hid (∀ j (h : j < L.length), ∃ a, A = some a ∧ w.cell? (a.add j) = some (.int .u8 (L.getD j 0))) := Lib.hid (fun j hj => by
    rcases hA with h | ⟨g', o', rfl, _, h⟩
    · rw [h] at hj; simp at hj
    · exact ⟨_, rfl, by rw [Lib.add_plain, show L.getD j 0 = L[j] by simp [List.getD, hj]]; exact h j _ (List.getElem?_eq_getElem hj)⟩)
  have HT := Lib.hid (fours_cell hw)
  have HBy := Lib.hid hb
  clear hA hb
  go_enter Tryd.func40, Tryd.ntmps40
  go_wp2_with fail
  go_loop [3, 8] (fun v3 v8 => ∃ k x : Nat, k ≤ L.length ∧ x < 4294967296 ∧ Hid (crcReg (L.drop k) x = crcReg L 4294967295) ∧ v3 = .int .u32 x ∧ v8 = .int .i64 k) (fun _ v8 => L.length - (intOf v8).toNat)
  case atStart => exact ⟨0, 4294967295, Nat.zero_le _, by decide, Lib.hid rfl, rfl, rfl⟩
  case round =>
    obtain ⟨k, x, hk, hx, HR, rfl, rfl⟩ := hrel
    by_cases hlt : k < L.length
    · obtain ⟨a, rfl, hcell⟩ := HC.out k hlt
      have hbk := getD_byte HBy.out k
      obtain ⟨b, hbb⟩ : ∃ b : Nat, L.getD k 0 = (b : Int) := ⟨_, (Int.toNat_of_nonneg hbk.1).symm⟩
      rw [hbb] at hcell hbk
      have d1 : decide ((k : Int) < (L.length : Int)) = true := decide_eq_true (by omega)
      have d2 : (0 : Int) ≤ (k : Int) := by omega
      have d3 : (k : Int) < (L.length : Int) := by omega
      obtain ⟨z, hz⟩ : ∃ z, x ^^^ b = z := ⟨_, rfl⟩
      have hzl : z < 4294967296 := by rw [← hz]; exact Nat.xor_lt_two_pow (n := 32) hx (by omega)
      have e1 := xor32 x b hx (by omega)
      rw [hz] at e1
      have e2 := and32 z hzl
      have e4 := HT.out (z % 16) (by omega)
      obtain ⟨t1, ht1⟩ : ∃ t, crcTab.getD (z % 16) 0 = t := ⟨_, rfl⟩
      have hl1 : t1 < 4294967296 := by rw [← ht1]; exact tab_lt _
      rw [ht1] at e4
      obtain ⟨y, hy⟩ : ∃ y, z / 16 ^^^ t1 = y := ⟨_, rfl⟩
      have hyl : y < 4294967296 := by rw [← hy]; exact Nat.xor_lt_two_pow (n := 32) (by omega) hl1
      have e5 := xor32 (z / 16) t1 (by omega) hl1
      rw [hy, Int.natCast_ediv] at e5
      have e6 := and32 y hyl
      have e7 := HT.out (y % 16) (by omega)
      obtain ⟨t2, ht2⟩ : ∃ t, crcTab.getD (y % 16) 0 = t := ⟨_, rfl⟩
      have hl2 : t2 < 4294967296 := by rw [← ht2]; exact tab_lt _
      rw [ht2] at e7
      obtain ⟨v, hv⟩ : ∃ v, y / 16 ^^^ t2 = v := ⟨_, rfl⟩
      have hvl : v < 4294967296 := by rw [← hv]; exact Nat.xor_lt_two_pow (n := 32) (by omega) hl2
      have e8 := xor32 (y / 16) t2 (by omega) hl2
      rw [hv, Int.natCast_ediv] at e8
      have hnew : crcByte x (b : Int) = v := by
        unfold crcByte
        rw [Int.toNat_natCast, hz, crc8_tab, ht1, hy, ht2, hv]
      have hdrop : L.drop k = (b : Int) :: L.drop (k + 1) := by rw [drop_getD hlt, hbb]
      have HN : Hid (crcReg (L.drop (k + 1)) v = crcReg L 4294967295) := Lib.hid (by rw [← HR.out, hdrop, ← hnew]; rfl)
      replace e5 : Go.bits .xor .u32 ((z : Int) / 16) (t1 : Int) = (y : Int) := e5
      replace e8 : Go.bits .xor .u32 ((y : Int) / 16) (t2 : Int) = (v : Int) := e8
      clear hnew hdrop hz ht1 hy ht2 hv HR hbb
      go_wp2
      go_round
      case rel => exact ⟨k + 1, v, by omega, hvl, HN, rfl, by go_num⟩
      case measure => simp [intOf]; omega
    · obtain rfl : k = L.length := by omega
      have hr : crcReg L 4294967295 = x := by rw [← HR.out, List.drop_length]; rfl
      have HRR := Lib.hid hr
      have d1 : (L.length : Int) ≤ (L.length : Int) := by omega
      clear hr HR hlt
      have hres : Go.bits .xor .u32 IntKind.u32.max (x : Int) = crcI L := by
        have h := xor32 4294967295 x (by decide) hx
        unfold crcI crcN
        rw [HRR.out, Nat.xor_comm]
        exact h
      have HRES := Lib.hid hres
      clear hres
      go_wp2
      all_goals first
        | (exact absurd (by assumption : IntKind.u32.signed = true) (by decide))
        | (go_ret; exact ⟨by rw [← HRES.out]; rfl, rfl⟩)
end Go.Proofs.YtlnaeppbhjmocaaDoor
set_option linter.unusedSimpArgs false
set_option linter.unusedVariables false
namespace Go.Proofs.YtlnaeppbhjmocaaDoor.Reg
open Go Go.RowKit Go.Sort
theorem wpMainT_enter {P : Program} {ops : Array Oper} {S : World → Prop} {D : Nat} {Q : Exit → Act → World → Prop} {k : Nat} {rest : List Nat} {o : Oper} {fn : FuncId} {args : Array Value} {a : Act} {w : World} {R : Ending → World → Prop} (ho : ops[k]? = some o) (hw : Region.wanted o (yielded ops a.tmps) = true)
    (hr : (execOp a.eval o).run P w = .ok (.enter fn args) w) (hc : Calls P fn args w R) (h : ∀ e w', R e w' → ∃ v, e = .returned v ∧ (k = D ∨ S w') ∧ wpMainT P ops Q S D rest (a.put o.dst v) w') : wpMainT P ops Q S D (k :: rest) a w := by
  unfold wpMainT wpOp
  simp only [ho, hw, if_true]
  left
  unfold Oper.wp
  rw [hr, Oper.upon_enter]
  refine hc.mono fun e w' hR => ?_
  obtain ⟨v, rfl, hS, h'⟩ := h e w' hR
  exact ⟨hS, h'⟩
end Go.Proofs.YtlnaeppbhjmocaaDoor.Reg
namespace Go.Proofs.YtlnaeppbhjmocaaDoor
open Go.RowKit Go.Proofs Go.Proofs.YtlnaeppbhjmocaaDoorW.PrintWords Go.Proofs.YtlnaeppbhjmocaaDoorW.PrintMore

/-- a tree in memory, its lists the call's own -/
def TreeAt (w : World) (B : Nat) (v : Value) (lfs : List Lf) : Prop := ∃ a tv c, v = .slice a tv.length c ∧ tv.map Prod.fst = lfs ∧ w.ownsRow B 45 6 (.slice a tv.length c) tv.length (lflat tv) ∧ LO w B tv
theorem TreeAt.nil (w : World) (B : Nat) : TreeAt w B (.slice none 0 0) [] := ⟨none, [], 0, rfl, rfl, ⟨rfl, .inl ⟨rfl, rfl⟩⟩, LO.nil w B⟩
theorem strOfNums_inj {a b : List Int} (ha : bytesOk a) (hb : bytesOk b) (h : strOfNums a = strOfNums b) : a = b := by
  have h1 : (a.map fun x => UInt8.ofNat x.toNat) = (b.map fun x => UInt8.ofNat x.toNat) := by
    have := congrArg (fun s : ByteArray => s.data.toList) h
    simpa [strOfNums] using this
  have key : ∀ (a b : List Int), bytesOk a → bytesOk b → (a.map fun x => UInt8.ofNat x.toNat) = (b.map fun x => UInt8.ofNat x.toNat) → a = b := by
    intro a
    induction a with
    | nil => intro b _ _ h; cases b with
      | nil => rfl
      | cons _ _ => simp at h
    | cons x r ih =>
      intro b ha hb h
      cases b with
      | nil => simp at h
      | cons y s =>
        simp only [List.map_cons, List.cons.injEq] at h
        have hx := ha x List.mem_cons_self
        have hy := hb y List.mem_cons_self
        have e := congrArg UInt8.toNat h.1
        simp only [UInt8.toNat_ofNat'] at e
        have : x = y := by omega
        rw [this, ih s (fun z hz => ha z (List.mem_cons_of_mem _ hz)) (fun z hz => hb z (List.mem_cons_of_mem _ hz)) h.2]
  exact key a b ha hb h1
theorem own_block {w : World} {g B n size : Nat} {cs : Array Value} {t : TypeId} (H : w.heap[g]? = some (.cells cs t (0, 0))) (hB : B ≤ g) (hn : n ≤ maxLen) (hs : cs.size = n * size) : w.ownsRow B t size (.slice (some ⟨g, 0, none⟩) n n) n cs.toList :=
  ⟨hs, .inr ⟨g, n, cs, rfl, hB, H, Nat.le_refl _, hn, hs, by rw [← hs]; exact List.take_length⟩⟩
theorem headB_iff {L : List Int} (h : 5 ≤ L.length) : headB L = (L.getD 0 0 == 80 && L.getD 1 0 == 82 && L.getD 2 0 == 67 && L.getD 3 0 == 76 && L.getD 4 0 == 1) := by
  match L, h with
  | a :: b :: c :: d :: e :: r, _ => simp [headB, Bool.and_assoc]
theorem headB_len {L : List Int} (h : L.length < 5) : headB L = false := by unfold headB; rw [decide_eq_false (by omega)]; rfl

end Go.Proofs.YtlnaeppbhjmocaaDoor
set_option linter.unusedSimpArgs false
set_option linter.unusedVariables false
namespace Go.Proofs.YtlnaeppbhjmocaaDoor
open Go.ChangeShapes Go.WideShapes Go.ChangeAt Go.RowKit

/-! ### Bulk -/
section
variable {H : Type}
theorem bulk_pos (x : DataW H) : 1 ≤ Rows.uptoBulk x := by
  cases x with
  | lit l => cases l <;> simp [Rows.uptoBulk]
  | _ => simp [Rows.uptoBulk]
theorem bulk_len (es : List (DataW H)) : es.length ≤ Rows.uptoBulkAll es := by
  induction es with
  | nil => simp [Rows.uptoBulkAll]
  | cons x r ih => have := bulk_pos x; simp only [Rows.uptoBulkAll, List.length_cons]; omega
theorem bulk_get {es : List (DataW H)} {i : Nat} {e : DataW H} (h : es[i]? = some e) : Rows.uptoBulk e ≤ Rows.uptoBulkAll es := by
  induction es generalizing i with
  | nil => simp at h
  | cons x r ih =>
    cases i with
    | zero => simp at h; subst h; simp only [Rows.uptoBulkAll]; omega
    | succ i => have := ih (by simpa using h); simp only [Rows.uptoBulkAll]; omega
end

section
variable {H : Type} {enc : TypeId × Value → H} {w : World} {base : Nat} {sp : Nat → Bool} {held : Bool}

/-- a slice of structs of k cells -/
theorem open_rows {α : Type} [Inhabited α] {Ts e : TypeId} {k : Nat} (f : α → List Value) (hf : ∀ a, (f a).length = k) (hk : 0 < k) (ht : Tryd.prog.underlying Ts = some (.slice e)) (hc : Tryd.prog.cellsOf e = k) (Q : α → DataW H → Prop)
    (hopen : ∀ {fuel : Nat} {cs : List Value} {x : DataW H × List MemPlace}, DataW.trod enc Tryd.prog w base sp held fuel e cs = some x → ∃ a, Q a x.1 ∧ cs = f a)
    {fuel : Nat} {cs : List Value} {x : DataW H × List MemPlace} (h : DataW.trod enc Tryd.prog w base sp held fuel Ts cs = some x) :
    ∃ (l : List α) (A : Option Addr) (c : Nat), cs = [.slice A l.length c] ∧ Row w A k (l.map f) ∧ l.length ≤ c ∧ (A = none → c = 0) ∧ l.length ≤ Rows.uptoBulk x.1 ∧ ∀ a ∈ l, ∃ d, Q a d ∧ Rows.uptoBulk d ≤ Rows.uptoBulk x.1 := by
  rcases Deep.open_slice ht h with ⟨rfl, rfl⟩ | ⟨ad, len, cap, m, n, D, Pl, rfl, hb, hl, hm, hmm, rfl, hx⟩
  · exact ⟨[], none, 0, rfl, .inl rfl, Nat.le_refl _, fun _ => rfl, by simp, fun a ha => by cases ha⟩
  rw [hc] at hx
  have hle : len ≤ m := by rw [hmm]; split <;> omega
  have key : ∀ i, i < len → ∃ a : α, Q a (D i) ∧ w.cells? base (ad.add (i * k)) k = some (f a) := fun i hi => by
    obtain ⟨cs', h1, h2⟩ := hx i (by omega)
    obtain ⟨a, ha, rfl⟩ := hopen h2
    exact ⟨a, ha, h1⟩
  clear hx
  obtain ⟨F, hF⟩ := Deep.choose_lt (α := α) (p := fun i a => Q a (D i) ∧ w.cells? base (ad.add (i * k)) k = some (f a)) key
  have hbulk : Rows.uptoBulkAll ((List.range len).map D) ≤ Rows.uptoBulk (DataW.slice ((List.range len).map D) ((List.range (m - len)).map fun j => D (len + j))) := by
    simp only [Rows.uptoBulk]; omega
  refine ⟨(List.range len).map F, some ad, cap, by simp, ?_, by simpa using hl, (fun e => by cases e), ?_, ?_⟩
  · cases len with
    | zero => exact .inl rfl
    | succ len =>
      right
      have cellsF : ∀ i, i < len + 1 → ∀ j, j < k → w.cell? (ad.add (i * k + j)) = (f (F i))[j]? := fun i hi j hj => by
        have := (World.cells?_some (hF i hi).2).2.2 j hj
        rwa [Deep.add_add] at this
      obtain ⟨b, o, spot⟩ := ad
      have h0 := cellsF 0 (by omega) 0 hk
      obtain ⟨v0, hv0⟩ : ∃ v, (f (F 0))[0]? = some v := ⟨_, List.getElem?_eq_getElem (by rw [hf]; exact hk)⟩
      rw [hv0] at h0
      have hspot : spot = none := by simpa [Addr.add] using World.cell?_spot h0
      subst hspot
      refine ⟨b, o, rfl, by simpa [Addr.add] using World.block_lt_of_cell? w _ h0, fun i c hi j v hj hv => ?_⟩
      have hi' : i < len + 1 := by have := (List.getElem?_eq_some_iff.1 hi).1; simpa using this
      have hce : c = f (F i) := by
        simp only [List.getElem?_map, List.getElem?_range hi', Option.map_some, Option.some.injEq] at hi
        exact hi.symm
      subst hce
      have := cellsF i hi' j hj
      rw [Lib.add_plain, hv] at this
      rw [Nat.add_assoc]; exact this
  · have := bulk_len ((List.range len).map D)
    simp only [List.length_map, List.length_range] at this ⊢
    omega
  · intro a ha
    obtain ⟨i, hi, rfl⟩ := List.mem_map.1 ha
    have hi' : i < len := by simpa using hi
    refine ⟨D i, (hF i hi').1, ?_⟩
    exact Nat.le_trans (bulk_get (es := (List.range len).map D) (i := i) (e := D i) (by simp [hi'])) hbulk
end

theorem open_u8s {H : Type} {enc : TypeId × Value → H} {w : World} {base : Nat} {sp : Nat → Bool} {held : Bool} {fuel : Nat} {cs : List Value} {x : DataW H × List MemPlace} (h : DataW.trod enc Tryd.prog w base sp held fuel 22 cs = some x) :
    ∃ (L : List Int) (A : Option Addr) (c : Nat), cs = [.slice A L.length c] ∧ BytesAt w A L ∧ bytesOk L ∧ L.length ≤ c ∧ (A = none → c = 0) ∧ L.length ≤ Rows.uptoBulk x.1 := by
  have hc1 : Tryd.prog.cellsOf 5 = 1 := by kernel_rfl
  obtain ⟨L, A, c, h1, hR, h3, h4, h5, h6⟩ := open_rows (fun a : Int => [Value.int .u8 a]) (fun _ => rfl) (by decide) Tryd.underlying22 hc1 (fun a _ => 0 ≤ a ∧ a ≤ 255)
    (fun h => by
      obtain ⟨a, e0, rfl, w0⟩ := DataW.trod_int Tryd.underlying5 h
      refine ⟨a, ?_, e0⟩
      have := w0
      simp [Lit.wf, IntKind.min, IntKind.max, IntKind.signed, IntKind.bits] at this
      omega) h
  refine ⟨L, A, c, h1, ?_, fun a ha => (h6 a ha).choose_spec.1, h3, h4, h5⟩
  rcases hR with h | ⟨g, o, rfl, hg, hc⟩
  · left; simpa using h
  · refine .inr ⟨g, o, rfl, hg, fun i a hi => ?_⟩
    have := hc i [.int .u8 a] (by simp [hi]) 0 (.int .u8 a) Nat.zero_lt_one rfl
    simpa using this

theorem tab_of_reads {P : Program} {w : World} {name : String} {k : IntKind} {zs : List Int} {g : Nat} {t e : TypeId} {n : Nat}
    (hg : P.globalNamed name = some g) (hty : (P.globals[g]?).map (·.type) = some t) (ht : P.underlying t = some (.array n e)) (he : P.underlying e = some (.int k)) (hce : P.cellsOf e = 1) (hct : P.cellsOf t = n)
    (h : Lib.VarReads P w name (Lib.tabData k zs)) : Lib.TabIs P w name k zs := by
  obtain ⟨g', t', cs, fuel, p, hg', ht', hvar, hd⟩ := h
  obtain rfl := Option.some.inj (hg.symm.trans hg')
  obtain rfl := Option.some.inj (hty.symm.trans ht')
  unfold Lib.TabIs
  rw [hvar, ← Lib.cells_of_tab ht he hce hct hd]
theorem okFours {w : World} (h : Lib.VarReads Tryd.prog w "shale/words.fours" Rows.laid_shale_words_fours) : w.var? Tryd.prog "shale/words.fours" = some foursTab :=
  tab_of_reads gFours (t := 90) (e := 47) (n := 16) (k := .u32) (zs := crcTab.map fun n : Nat => (n : Int)) (by kernel_rfl) (by kernel_rfl) (by kernel_rfl) (by kernel_rfl) (by kernel_rfl) h
theorem sizeOf {W : World} (h : W.ShapedOpen Tryd.prog) : 4 ≤ W.heap.size := by
  have hs : (((begin Tryd.prog (fun _ _ => 0) default).world.heap[3]?).bind Obj.row?).isSome = true := by kernel_rfl
  obtain ⟨⟨zero, t⟩, h0⟩ := Option.isSome_iff_exists.1 hs
  obtain ⟨cs, hh, _⟩ := h.1 3 zero t (of_decide_eq_true (by kernel_rfl)) h0
  exact (Array.getElem?_eq_some_iff.1 hh).1
theorem own : ownKnob Tryd.prog.godebug = none := by kernel_rfl
theorem laidOut : laidOutB Tryd.prog = true := by kernel_rfl
end Go.Proofs.YtlnaeppbhjmocaaDoor
set_option linter.unusedSimpArgs false
set_option linter.unusedVariables false
namespace Go.Proofs.YtlnaeppbhjmocaaDoor
open Go.RowKit Go.Proofs

theorem zeroCells_one (z : Value) (hz : z.cells = #[z]) (n : Nat) : (Builtin.zeroCells z.cells n).toList = List.replicate n z := by
  rw [hz]
  unfold Builtin.zeroCells
  apply List.ext_getElem?
  intro j
  by_cases hj : j < n
  · simp [hj, Nat.mod_one]
  · simp [hj]
theorem ownB_lit (w : World) (B : Nat) (xs : List Int) (cap : Nat) (hB : B ≤ w.heap.size) (hc : xs.length ≤ cap) (hm : cap ≤ maxLen) :
    OwnB (w.alloc (.cells ((xs.map (Value.int .u8)).toArray ++ Builtin.zeroCells (Value.int .u8 0).cells (cap - xs.length)) 5)) B (.slice (some ⟨w.heap.size, 0, none⟩) xs.length cap) xs := by
  refine ⟨by simp, .inr ⟨w.heap.size, cap, _, rfl, hB, heap_alloc_new w _, hc, hm, ?_, ?_⟩⟩
  · have := congrArg List.length (zeroCells_one (Value.int .u8 0) rfl (cap - xs.length))
    rw [Array.length_toList, List.length_replicate] at this
    simp [this]
    omega
  · simp
theorem append_zeros (ty : TypeId) (B : Nat) (v : Value) (xs : List Int) (m : Nat) (h1 : 1 ≤ m) (h8 : m ≤ 16777216) (w : World) (ho : OwnB w B v xs) (hl : xs.length ≤ 1099511627776) (hB : B ≤ w.heap.size) :
    ∃ v' w', (Builtin.append_ #[22, 3] ty #[v, .int .i64 (m : Int)]).run Tryd.prog w = .ok v' w' ∧ OwnB w' B v' (xs ++ List.replicate m 0) ∧ w.grownBy w' v.ownBlock ∧ (v'.ownBlock = v.ownBlock ∨ v'.ownBlock = some w.heap.size) := by
  obtain ⟨i, hi, hz, hs, hb⟩ := info_byte
  have ht := Tryd.underlying22
  have hu := Tryd.underlying3
  have hw : IntKind.i64.wrap (m : Int) = (m : Int) := IntWalk.i64_in _ ⟨by omega, by omega⟩
  have hn0 : ¬ ((m : Int) < 0) := by omega
  have hm0 : m ≠ 0 := by omega
  have hb2 : ¬ (281474976710656 < (m : Int)) := by omega
  have hmp : ¬ ((m : Int) ≤ 0) := by omega
  have hmx : ¬ (9223372036854775807 < max (m : Int) 0) := by omega
  have hbig : ¬ (281474976710656 < (m : Int) * (1 : Nat)) := by omega
  have hzl : (Builtin.zeroCells (Value.int .u8 0).cells m).toList = List.replicate m (.int .u8 0) := zeroCells_one _ rfl m
  have hza : Builtin.zeroCells (Value.int .u8 0).cells m = (List.replicate m (Value.int .u8 0)).toArray := by rw [← hzl]
  obtain ⟨hlen, ho2⟩ := ho
  rcases ho2 with ⟨rfl, hx0⟩ | ⟨g, cap, cur, rfl, hbg, hg, hnc, hcm, hcs, htake⟩
  · have hx : xs = [] := List.eq_nil_of_length_eq_zero hx0
    subst hx
    have h63' : ¬ (9223372036854775807 < (m : Int)) := by omega
    have h48' : ¬ (281474976710656 < Builtin.nextslicecap m 0) := by rw [nextslicecap_zero (by omega)]; omega
    have hr : (Builtin.append_ #[22, 3] ty #[.slice none 0 0, .int .i64 (m : Int)]).run Tryd.prog w = .ok (.slice (some ⟨w.heap.size, 0, none⟩) m (grownCap w m 0 5)) (w.drew.alloc (.cells ((List.replicate m (Value.int .u8 0)).toArray ++ Builtin.zeroCells (Value.int .u8 0).cells (grownCap w m 0 5 - m)) 5)) := by
      simp [Builtin.append_, run_underlying ht, run_underlying hu, sizeOf, typeInfo, zeroValue, hi, hz, hs, hb, asInt, asIntOf, hw, hmp, hmx, hb2, hn0, hm0, hbig, h63', h48', Question.forced, run_firstCells_none, newRow, grownCap, hza]
    have hge := grownCap_ge w m 0 5
    refine ⟨_, _, hr, ?_, ⟨rfl, rfl, rfl, by simp, fun k hk _ => heap_alloc_old w.drew _ hk⟩, .inr rfl⟩
    have := ownB_lit w.drew B ([] ++ List.replicate m (0 : Int)) (grownCap w m 0 5) hB (by simpa using hge) (grownCap_le_maxLen w m 0 5 (by unfold maxLen; omega))
    simp only [List.nil_append, List.length_replicate, List.map_replicate] at this
    simp only [List.nil_append]
    exact this
  · by_cases hroom : xs.length + m ≤ cap
    · have hst := run_storeCells_at Tryd.prog g xs.length 5 (List.replicate m (Value.int .u8 0)) 0 cur w hg (by simp; omega) (by intro u hu; rw [(List.mem_replicate.1 hu).2]; rfl)
      simp only [Nat.add_zero, List.length_replicate] at hst
      have hr : (Builtin.append_ #[22, 3] ty #[.slice (some ⟨g, 0, none⟩) xs.length cap, .int .i64 (m : Int)]).run Tryd.prog w = .ok (.slice (some ⟨g, 0, none⟩) (xs.length + m) cap) (w.setRow g (cur.toList.take xs.length ++ List.replicate m (Value.int .u8 0) ++ cur.toList.drop (xs.length + m)).toArray) := by
        simp [Builtin.append_, run_underlying ht, run_underlying hu, sizeOf, typeInfo, zeroValue, hi, hz, hs, hb, asInt, asIntOf, hw, hmp, hmx, hb2, hn0, hm0, hbig, hroom, hza, hst, Addr.add_lit]
      refine ⟨_, _, hr, ⟨by simp, .inr ⟨g, cap, _, by simp, hbg, setRow_heap w g cur _ 5 _ hg, by simpa using hroom, hcm, ?_, ?_⟩⟩, ⟨rfl, rfl, rfl, by simp, fun k _ hk => setRow_other w g k _ (fun e => hk (by simp [Value.ownBlock, e]))⟩, .inl rfl⟩
      · simp
        omega
      · rw [Nat.mul_one] at htake
        rw [htake, List.map_append, List.map_replicate]
        have hlen2 : (List.map (Value.int .u8) xs ++ List.replicate m (Value.int .u8 0)).length = xs.length + m := by simp
        simp only [List.length_append, List.length_replicate, Nat.mul_one]
        rw [← hlen2]
        exact List.take_left
    · have holds : ∀ j u, (xs.map (Value.int .u8))[j]? = some u → w.drew.cell? ((⟨g, 0, none⟩ : Addr).add j) = some u := fun j u hj => by
        have hj' : j < xs.length := by simpa using (List.getElem?_eq_some_iff.1 hj).1
        rw [Lib.add_plain, Nat.zero_add]
        show w.cell? ⟨g, j, none⟩ = some u
        rw [cell_of_row w g j cur 5 (0, 0) hg, ← hj, ← htake, List.getElem?_take, if_pos (by omega)]
        simp
      have hfo := run_firstCells_some (P := Tryd.prog) w.drew 1 xs.length ⟨g, 0, none⟩ xs.length cap (xs.map (Value.int .u8)) (by simp) holds
      have h63' : ¬ (9223372036854775807 < ((xs.length : Int) + (m : Int))) := by omega
      have h63'' : ¬ (9223372036854775807 < ((xs.length : Int) + max (m : Int) 0)) := by omega
      have hgf := growslice_fits (need := xs.length + m) (old := cap) (bytes := 1) (by omega) (by omega)
      have h48' : ¬ (281474976710656 < Builtin.nextslicecap (xs.length + m) cap) := by omega
      have hr : (Builtin.append_ #[22, 3] ty #[.slice (some ⟨g, 0, none⟩) xs.length cap, .int .i64 (m : Int)]).run Tryd.prog w = .ok (.slice (some ⟨w.heap.size, 0, none⟩) (xs.length + m) (grownCap w (xs.length + m) cap 5))
          (w.drew.alloc (.cells (((xs ++ List.replicate m 0).map (Value.int .u8)).toArray ++ Builtin.zeroCells (Value.int .u8 0).cells (grownCap w (xs.length + m) cap 5 - (xs ++ List.replicate m (0 : Int)).length)) 5)) := by
        simp [Builtin.append_, run_underlying ht, run_underlying hu, sizeOf, typeInfo, zeroValue, hi, hz, hs, hb, asInt, asIntOf, hw, hmp, hmx, hb2, hn0, hm0, hbig, hroom, hza, h63', h63'', h48', Question.forced, hfo, newRow, grownCap]
        refine congrArg (fun a => World.alloc w.drew (Obj.cells a 5)) (Array.ext' ?_)
        simp only [Array.toList_append, List.append_assoc, Array.toList_replicate]
      have hge := grownCap_ge w (xs.length + m) cap 5
      refine ⟨_, _, hr, ?_, ⟨rfl, rfl, rfl, by simp, fun k hk _ => heap_alloc_old w.drew _ hk⟩, .inr rfl⟩
      have := ownB_lit w.drew B (xs ++ List.replicate m (0 : Int)) (grownCap w (xs.length + m) cap 5) hB (by simpa using hge) (grownCap_le_maxLen w _ cap 5 (by unfold maxLen; omega))
      simp only [List.length_append, List.length_replicate] at this ⊢
      exact this
end Go.Proofs.YtlnaeppbhjmocaaDoor
set_option linter.unusedSimpArgs false
set_option linter.unusedVariables false
namespace Go.Proofs.YtlnaeppbhjmocaaDoor
open Go.RowKit Go.Proofs Go.Proofs.YtlnaeppbhjmocaaDoorW.PrintWords Go.Proofs.YtlnaeppbhjmocaaDoorW.PrintLast Go.Proofs.YtlnaeppbhjmocaaDoorW.PrintMore

/-- append of the call's own blocks: the row stays, or is a new one -/
def Ownish (w : World) (r r' : Option Nat) : Prop := r' = r ∨ ∃ k, r' = some k ∧ w.heap.size ≤ k
theorem grown_ish {a b c : World} {r r' : Option Nat} (h : a.grownBy b r) (k : b.grownBy c r') (hr : Ownish a r r') : a.grownBy c r := by
  rcases hr with e | ⟨x, e, hx⟩
  · subst e; exact grown_trans h k
  · subst e; exact grown_own h k (fun i hi => by injection hi with hi; omega)
theorem grown_none {a b : World} {r : Option Nat} (q : a.grownBy b none) : a.grownBy b r := ⟨q.os, q.tape, q.output, q.size, fun i hi _ => q.block i hi (by simp)⟩
theorem Ownish.step {a b : World} {r r' r'' : Option Nat} (h : Ownish a r r') (hs : a.heap.size ≤ b.heap.size) (k : r'' = r' ∨ r'' = some b.heap.size) : Ownish a r r'' := by
  rcases k with e | e
  · rw [e]; exact h
  · exact .inr ⟨_, e, hs⟩
set_option maxHeartbeats 3200000 in
set_option maxRecDepth 100000 in
theorem put_any (B : Nat) (A : Option Addr) (c : Nat) (xs : List Int) (x : Int) (n : Nat) (h0 : 0 ≤ x) (hx : x ≤ 18446744073709551615) (hn : n ≤ 8) (w : World) (hw : Ok w) (hO : OwnB w B (.slice A xs.length c) xs) (hB : B ≤ w.heap.size) (hl : xs.length ≤ 1099511627776) :
    Calls Tryd.prog 39 #[.slice A xs.length c, .int .u64 x, .int .i64 n] w fun e w' => ∃ a d, e = .returned (.slice a (xs ++ le x n).length d) ∧ OwnB w' B (.slice a (xs ++ le x n).length d) (xs ++ le x n) ∧ w.grownBy w' (Value.slice A xs.length c).ownBlock ∧ Ownish w (Value.slice A xs.length c).ownBlock (Value.slice a (xs ++ le x n).length d).ownBlock := by
  obtain ⟨iB, hiB, hzB, hsB, hyB⟩ := info_byte
  have HiB := Lib.hid hiB
  have HO := Lib.hid hO
  clear hiB hO
  go_enter Tryd.func39, Tryd.ntmps39
  go_wp2_with fail
  go_loopg [0, 1, 8] n (fun k v0 v1 v8 wc => ∃ (i : Nat) (y : Int) (zs : List Int) (a : Option Addr) (d : Nat), i + k = n ∧ v0 = .slice a zs.length d ∧ v1 = .int .u64 y ∧ v8 = .int .i64 i ∧ 0 ≤ y ∧ y ≤ 18446744073709551615 ∧ zs.length = xs.length + i ∧ Hid (zs ++ le y k = xs ++ le x n) ∧ Hid (OwnB wc B (.slice a zs.length d) zs) ∧ Hid (w.grownBy wc (Value.slice A xs.length c).ownBlock) ∧ Hid (Ownish w (Value.slice A xs.length c).ownBlock (Value.slice a zs.length d).ownBlock))
  case atStart => exact ⟨0, x, xs, A, c, by omega, rfl, rfl, rfl, h0, hx, by omega, Lib.hid rfl, HO, Lib.hid (grown_refl w _), Lib.hid (.inl rfl)⟩
  case round =>
    obtain ⟨i, y, zs, a, d, hik, rfl, rfl, rfl, hy0, hy1, hzl, HE, O, G, S⟩ := hrel
    cases gk with
    | zero =>
      obtain rfl : i = n := by omega
      have d1 : decide ((i : Int) < (i : Int)) = false := decide_eq_false (by omega)
      have he : zs = xs ++ le x i := by have := HE.out; simpa [le] using this
      subst he
      go_wp2
      go_ret
      exact ⟨a, d, rfl, O.out, G.out, S.out⟩
    | succ k =>
      have d1 : decide ((i : Int) < (n : Int)) = true := decide_eq_true (by omega)
      have w8 : IntKind.u8.wrap y = y % 256 := by rw [IntKind.wrap_u8]
      obtain ⟨w3, g3, hg3, hw3, q3, hz3, H3⟩ : ∃ w1 g, wr.heap.size = g ∧ wr.alloc (.cells #[.int .u8 (y % 256)] 5) = w1 ∧ wr.grownBy w1 none ∧ g < w1.heap.size ∧ w1.heap[g]? = some (.cells #[.int .u8 (y % 256)] 5 (0, 0)) :=
        ⟨_, _, rfl, rfl, ⟨rfl, rfl, rfl, by simp, fun j hj _ => heap_alloc_old wr _ hj⟩, by simp, heap_alloc_new wr _⟩
      have O3 : OwnB w3 B (.slice a zs.length d) zs := World.ownsRow.kept O.out q3 (by cases (Value.slice a zs.length d).ownBlock <;> simp)
      have hbw : B ≤ w3.heap.size := by have := G.out.size; have := q3.size; omega
      obtain ⟨v5, w5, hap, O5, q5, hob⟩ := append_src Tryd.underlying22 HiB.out hzB hsB hyB rfl (by decide) 22 O3 (some ⟨g3, 0, none⟩) 1 1 _ (Src.lit H3 1 1) (by simp) (by simp [Value.oneCell']) (by unfold maxLen; omega) (by omega) hbw
      have hO5 : OwnB w5 B v5 (zs ++ [y % 256]) := by unfold OwnB; rw [List.length_append, List.map_append]; simpa using O5
      obtain ⟨a5, d5, hv5⟩ := hO5.form
      subst hv5
      have HO5 := Lib.hid hO5
      have hgr : w.grownBy w5 (Value.slice A xs.length c).ownBlock := grown_ish (grown_trans G.out (grown_none q3)) q5 S.out
      clear O5 O3 hO5
      go_wp2_with (at_builtin; refine wpList_append_run rfl _ _ 22 22 rfl (by simp [Act.eval]) (by simp [Act.eval]) hap ?_)
      go_roundg k
      case measure => omega
      case rel =>
        refine ⟨i + 1, y / 256, zs ++ [y % 256], a5, d5, by omega, by simp [hzl], rfl, by go_num, by omega, by omega, by simp [hzl]; omega, Lib.hid ?_, HO5, Lib.hid hgr, Lib.hid ?_⟩
        · have := HE.out
          simp only [le] at this
          simpa using this
        · refine S.out.step ?_ hob
          have := G.out.size; have := q3.size; omega

/-! ### Is there a hole -/
theorem nh_l0 (l : List Int) (hl : l.length ≤ 1073741824) : ∀ (d i run : Nat), i + d = l.length → run ≤ i → ∃ r1 r2, PnextHole.parcel_nextHole.l0 (d + 1) l (run : Int) (i : Int) = some (r1, r2) ∧ (r1 == (l.length : Int)) = !scan16 run (l.drop i) := by
  intro d
  induction d with
  | zero =>
    intro i run hi hr
    have hd : l.drop i = [] := List.drop_eq_nil_of_le (by omega)
    rw [hd]
    simp only [PnextHole.parcel_nextHole.l0]
    rw [if_neg (by omega)]
    by_cases h16 : 16 ≤ run
    · rw [if_pos (by omega)]
      refine ⟨_, _, rfl, ?_⟩
      rw [wr64 ⟨by omega, by omega⟩]
      have h1 : ((l.length : Int) - (run : Int) == (l.length : Int)) = false := by simp; omega
      rw [h1]; simp [scan16, h16]
    · rw [if_neg (by omega)]
      refine ⟨_, _, rfl, ?_⟩
      simp [scan16]; omega
  | succ d ih =>
    intro i run hi hr
    have hlt : i < l.length := by omega
    have hd : l.drop i = l[i] :: l.drop (i + 1) := List.drop_eq_getElem_cons hlt
    have hrd : rd l (i : Int) = l[i] := by unfold rd; rw [Int.toNat_natCast]; simp [List.getD, hlt]
    have e3 : wrap64 ((i : Int) + 1) = ((i + 1 : Nat) : Int) := by rw [wr64 ⟨by omega, by omega⟩]; omega
    have e4 : wrap64 ((run : Int) + 1) = ((run + 1 : Nat) : Int) := by rw [wr64 ⟨by omega, by omega⟩]; omega
    obtain ⟨D, hD⟩ : ∃ D, d + 1 = D := ⟨_, rfl⟩
    rw [hD]
    simp only [PnextHole.parcel_nextHole.l0]
    rw [if_pos (by omega), if_pos (by omega), hrd, e3, e4, hd, ← hD]
    by_cases h0 : l[i] = 0
    · rw [if_pos h0]
      obtain ⟨r1, r2, h1, h2⟩ := ih (i + 1) (run + 1) (by omega) (by omega)
      exact ⟨r1, r2, h1, by rw [h2]; simp only [scan16, if_pos h0]⟩
    · rw [if_neg h0]
      by_cases h16 : 16 ≤ run
      · rw [if_pos (by omega)]
        refine ⟨_, _, rfl, ?_⟩
        rw [wr64 ⟨by omega, by omega⟩]
        have h1 : ((i : Int) - (run : Int) == (l.length : Int)) = false := by simp; omega
        rw [h1]; simp [scan16, h0, h16]
      · rw [if_neg (by omega)]
        obtain ⟨r1, r2, h1, h2⟩ := ih (i + 1) 0 (by omega) (by omega)
        exact ⟨r1, r2, h1, by rw [h2]; simp [scan16, h0, h16]⟩
theorem nextHole_any (A : Option Addr) (c : Nat) (L : List Int) (hc : L.length ≤ c) (hL : L.length ≤ 1073741824) (w : World) (hw : Ok w) (hA : BytesAt w A L) :
    Calls Tryd.prog 79 #[.slice A L.length c, .int .i64 0] w fun e w' => ∃ r1 r2, e = .returned (.tuple #[.int .i64 r1, .int .i64 r2]) ∧ (r1 == (L.length : Int)) = no16 L ∧ Fr w w' := by
  obtain ⟨r1, r2, h1, h2⟩ := nh_l0 L hL L.length 0 0 (by omega) (by omega)
  rw [List.drop_zero, scan16_no] at h2
  exact (PnextHole.parcel_nextHole.calls _ A c L 0 r1 r2 w (hA.toC (by omega)) hc h1).mono fun e w' ⟨he, hd⟩ => ⟨r1, r2, he, by rw [h2]; simp, Fr.of hw hd.below⟩
end Go.Proofs.YtlnaeppbhjmocaaDoor
set_option linter.unusedSimpArgs false
set_option linter.unusedVariables false
namespace Go.Proofs.YtlnaeppbhjmocaaDoor
open Go.RowKit Go.Proofs Go.Proofs.YtlnaeppbhjmocaaDoorW.PrintWords Go.Proofs.YtlnaeppbhjmocaaDoorW.PrintLast Go.Proofs.YtlnaeppbhjmocaaDoorW.PrintMore

/-- what the reader gives up with -/
def gaveUp (c : Int) : Ending := .panicked [{ v := .iface 63 (.agg #[.int .i64 c]), recovered := false }]
theorem must_yes (p : Value) (w : World) : Calls Tryd.prog 69 #[p, .bool true] w fun e w' => e = .returned (.tuple #[]) ∧ w' = w := by
  go_enter Tryd.func69, Tryd.ntmps69
  go_wp2
  go_end0
  exact ⟨rfl, rfl⟩
theorem must_no (p : Value) (w : World) : Calls Tryd.prog 69 #[p, .bool false] w fun e w' => e = gaveUp 191 ∧ w' = w := by
  go_enter Tryd.func69, Tryd.ntmps69
  go_wp2
  exact ⟨rfl, rfl, rfl⟩
/-- must, at any Boolean: the fact wanted where it gives up -/
theorem must_or (X : Int → Prop) (p : Value) (b : Bool) (w : World) (hX : b = false → X 191) : Calls Tryd.prog 69 #[p, .bool b] w fun e w' => w' = w ∧ ((∃ c, X c ∧ e = gaveUp c) ∨ (b = true ∧ e = .returned (.tuple #[]))) := by
  cases b with
  | true => exact (must_yes p w).mono fun e w' ⟨h1, h2⟩ => ⟨h2, .inr ⟨rfl, h1⟩⟩
  | false => exact (must_no p w).mono fun e w' ⟨h1, h2⟩ => ⟨h2, .inl ⟨191, hX rfl, h1⟩⟩
def PB (w : World) (g : Nat) (A : Option Addr) (c : Nat) (L : List Int) (i : Nat) : Prop := w.heap[g]? = some (.cells #[.slice A L.length c, .int .i64 i] 67 (0, 0))
theorem PB.fr {w w' : World} {g : Nat} {A : Option Addr} {c : Nat} {L : List Int} {i : Nat} (h : PB w g A c L i) (q : Fr w w') : PB w' g A c L i := q.heap h
theorem PB.grown {w w' : World} {g : Nat} {A : Option Addr} {c : Nat} {L : List Int} {i : Nat} {r : Option Nat} (h : PB w g A c L i) (q : w.grownBy w' r) (hne : some g ≠ r) : PB w' g A c L i := grown_blk' q h hne
set_option maxHeartbeats 3200000 in
set_option maxRecDepth 100000 in
theorem takeP_yes (g gb ob c : Nat) (L : List Int) (i n : Nat) (w : World) (hw : Ok w) (H : PB w g (some ⟨gb, ob, none⟩) c L i) (hi : i + n ≤ L.length) (hc : L.length ≤ c) (hL : L.length ≤ 1099511627776) (hg : 4 ≤ g) :
    Calls Tryd.prog 37 #[.pointer (some ⟨g, 0, none⟩), .int .i64 n] w fun e w' => ∃ o' c', e = .returned (.slice (some ⟨gb, o', none⟩) n c') ∧ n ≤ c' ∧ (n = 0 ∨ o' = ob + i) ∧ w.grownBy w' (some g) ∧ PB w' g (some ⟨gb, ob, none⟩) c L (i + n) := by
  unfold PB at *
  have f := Fr.refl hw
  obtain ⟨c0, c1⟩ := blk2 H
  have w1 : IntKind.i64.wrap ((L.length : Int) - (i : Int)) = (L.length : Int) - (i : Int) := IntWalk.i64_in _ ⟨by omega, by omega⟩
  have d1 : decide (((L.length : Int) - (i : Int)) < (n : Int)) = false := decide_eq_false (by omega)
  go_enter Tryd.func37, Tryd.ntmps37
  go_wp2
  have r_c0 := cell_regrown c0
  have r_c1 := cell_regrown c1
  refine wp_region_quiet_below (by kernel_rfl) (by kernel_rfl) ?_
  repeat (go_big_quiet_step (fail))
  refine wpQuiet_nil ?_
  intro wq hwq
  have q := Fr.regrown f.ok hwq
  clear hwq r_c0 r_c1
  replace c0 := q.cell c0
  replace c1 := q.cell c1
  replace H := q.heap H
  replace f := f.trans q
  clear q
  clear w1 d1
  have w2 : IntKind.i64.wrap ((i : Int) + (n : Int)) = (i : Int) + (n : Int) := IntWalk.i64_in _ ⟨by omega, by omega⟩
  have w3 : IntKind.i64.wrap ((i : Int) + (n : Int) - (n : Int)) = (i : Int) := by rw [IntWalk.i64_in _ ⟨by omega, by omega⟩]; omega
  have z1 := unfroz H 1
  obtain ⟨wb, hwb, HB, gr⟩ := set_grown H 1 (.int .i64 ((i : Int) + (n : Int)))
  simp only [List.setIfInBounds_toArray, List.set_cons_zero, List.set_cons_succ] at HB
  obtain ⟨e0, e1⟩ := blk2 HB
  have h1 : (i : Int) ≤ (i : Int) + (n : Int) := by omega
  have h2 : (i : Int) + (n : Int) ≤ (c : Int) := by omega
  have h3 : (0 : Int) ≤ (i : Int) := by omega
  have gr2 := grown_trans (fr_grown f (some g)) gr
  have f2 := Fr.refl (hw.grown hg gr2)
  go_wp2
  clear w2 z1 hwb c0 c1
  have r_e0 := cell_regrown e0
  have r_e1 := cell_regrown e1
  refine wp_region_quiet_below (by kernel_rfl) (by kernel_rfl) ?_
  repeat (go_big_quiet_step (fail))
  refine wpQuiet_nil ?_
  intro wq hwq
  have q := Fr.regrown f2.ok hwq
  clear hwq r_e0 r_e1
  replace e0 := q.cell e0
  replace e1 := q.cell e1
  replace HB := q.heap HB
  replace f2 := f2.trans q
  clear q
  have HE := Lib.hid (And.intro (grown_trans gr2 (fr_grown f2 (some g))) HB)
  clear gr gr2 f f2 HB
  by_cases hci : c = i
  · have hci2 : (c : Int) = (i : Int) := by omega
    go_wp2
    all_goals (go_ret; exact ⟨_, _, rfl, by omega, .inl (by omega), HE.out.1, (by have := HE.out.2; rw [hci] at this; first | exact this | (rw [Int.natCast_add]; exact this))⟩)
  · have hci2 : ¬ (c : Int) = (i : Int) := by omega
    go_wp2
    go_ret
    exact ⟨_, _, rfl, by omega, .inr rfl, HE.out.1, HE.out.2⟩
set_option maxHeartbeats 3200000 in
set_option maxRecDepth 100000 in
theorem takeP_no (g : Nat) (A : Option Addr) (c : Nat) (L : List Int) (i n : Nat) (w : World) (hw : Ok w) (H : PB w g A c L i) (hi : i ≤ L.length) (hno : L.length < i + n) (hn : n ≤ 1099511627776) (hL : L.length ≤ 1099511627776) :
    Calls Tryd.prog 37 #[.pointer (some ⟨g, 0, none⟩), .int .i64 n] w fun e w' => e = gaveUp 190 ∧ Fr w w' := by
  unfold PB at *
  have f := Fr.refl hw
  obtain ⟨c0, c1⟩ := blk2 H
  have w1 : IntKind.i64.wrap ((L.length : Int) - (i : Int)) = (L.length : Int) - (i : Int) := IntWalk.i64_in _ ⟨by omega, by omega⟩
  have d1 : decide (((L.length : Int) - (i : Int)) < (n : Int)) = true := decide_eq_true (by omega)
  go_enter Tryd.func37, Tryd.ntmps37
  go_wp2
  have r_c0 := cell_regrown c0
  have r_c1 := cell_regrown c1
  refine wp_region_quiet_below (by kernel_rfl) (by kernel_rfl) ?_
  repeat (go_big_quiet_step (fail))
  refine wpQuiet_nil ?_
  intro wq hwq
  have q := Fr.regrown f.ok hwq
  clear hwq r_c0 r_c1
  replace c0 := q.cell c0
  replace c1 := q.cell c1
  replace f := f.trans q
  clear q
  go_wp2
  exact ⟨rfl, rfl, f⟩
/-- the next n bytes, or it gives up -/
theorem take_or (X : Int → Prop) (g gb ob c : Nat) (L : List Int) (i n : Nat) (w : World) (hw : Ok w) (H : PB w g (some ⟨gb, ob, none⟩) c L i) (hi : i ≤ L.length) (hA : BytesAt w (some ⟨gb, ob, none⟩) L) (hgb : gb ≠ g) (hn : n ≤ 1099511627776) (hc : L.length ≤ c) (hL : L.length ≤ 1073741824) (hg : 4 ≤ g)
    (hX : ∀ e, (takeX L n (.ok i)).2 = .error e → X e) :
    Calls Tryd.prog 37 #[.pointer (some ⟨g, 0, none⟩), .int .i64 n] w fun e w' => w.grownBy w' (some g) ∧ ((∃ c, X c ∧ e = gaveUp c) ∨ ∃ bs o' d, takeX L n (.ok i) = (bs, .ok (i + n)) ∧ e = .returned (.slice (some ⟨gb, o', none⟩) bs.length d) ∧ bs.length ≤ d ∧ bs.length = n ∧ BytesAt w' (some ⟨gb, o', none⟩) bs ∧ PB w' g (some ⟨gb, ob, none⟩) c L (i + n) ∧ i + n ≤ L.length) := by
  by_cases hle : i + n ≤ L.length
  · have hr : takeX L n (.ok i) = ((L.drop i).take n, .ok (i + n)) := by simp only [takeX, if_pos hle]
    have hl : ((L.drop i).take n).length = n := by rw [List.length_take, List.length_drop]; omega
    refine (takeP_yes g gb ob c L i n w hw H hle hc (by omega) hg).mono ?_
    rintro e w' ⟨o', d, rfl, hd, ho', gr, HR⟩
    refine ⟨gr, .inr ⟨_, o', d, hr, by rw [hl], by rw [hl]; exact hd, hl, ?_, HR, hle⟩⟩
    have hA' := hA.grown gr (fun a e => by injection e with e; subst e; intro e; injection e with e; exact hgb e)
    rcases ho' with h0 | h0
    · subst h0; left; simp
    · subst h0; exact hA'.sub i n
  · refine (takeP_no g _ c L i n w hw H hi (by omega) hn (by omega)).mono ?_
    rintro e w' ⟨rfl, f⟩
    exact ⟨fr_grown f _, .inl ⟨190, hX _ (by simp only [takeX, if_neg hle]), rfl⟩⟩

theorem or_step {M : List Int} (hM : bytesOk M) {i : Nat} (hi : i < M.length) (hs : M.length ≤ 8) :
    Go.bits .or .u64 (leV (M.take i)) (IntKind.u64.wrap (M.getD i 0 * 2 ^ (8 * i))) = leV (M.take (i + 1)) := by
  have hlen : (M.take i).length = i := by rw [List.length_take]; omega
  have hb := hM _ (List.getElem_mem hi)
  have hg : M.getD i 0 = M[i] := by simp [List.getD, hi]
  have hsn : M.take (i + 1) = M.take i ++ [M[i]] := List.take_succ_eq_append_getElem hi
  have hx0 := leV_nonneg (hM.take i)
  have hx1 := leV_lt (hM.take i)
  rw [hlen] at hx1
  rw [hg, hsn, leV_snoc, hlen]
  obtain ⟨x, hx⟩ : ∃ x : Nat, leV (M.take i) = (x : Int) := ⟨_, (Int.toNat_of_nonneg hx0).symm⟩
  obtain ⟨b, hbn⟩ : ∃ b : Nat, M[i] = (b : Int) := ⟨_, (Int.toNat_of_nonneg hb.1).symm⟩
  rw [hx] at hx0 hx1 ⊢
  rw [hbn] at hb ⊢
  have hb255 : b ≤ 255 := by omega
  have hpow : (256 : Int) ^ i = ((2 ^ (8 * i) : Nat) : Int) := by
    rw [Nat.pow_mul]; simp
  have hxl : x < 2 ^ (8 * i) := by
    rw [hpow] at hx1; exact_mod_cast hx1
  have hp56 : 2 ^ (8 * i) ≤ 2 ^ 56 := Nat.pow_le_pow_right (by decide) (by omega)
  have hmul : b * 2 ^ (8 * i) ≤ 255 * 2 ^ 56 := Nat.mul_le_mul hb255 hp56
  have hsh : IntKind.u64.wrap ((b : Int) * 2 ^ (8 * i)) = ((b * 2 ^ (8 * i) : Nat) : Int) := by
    have : (b : Int) * 2 ^ (8 * i) = ((b * 2 ^ (8 * i) : Nat) : Int) := by simp
    rw [this]
    exact u64_in ⟨by omega, by omega⟩
  rw [hsh, bits_or_u64_nat _ _ (by omega) (by omega), hpow]
  have hor : x ||| b * 2 ^ (8 * i) = x + b * 2 ^ (8 * i) := by
    rw [Nat.or_comm, Nat.mul_comm, ← Nat.two_pow_add_eq_or_of_lt hxl, Nat.add_comm]
  rw [hor]
  simp

set_option maxHeartbeats 6400000 in
set_option maxRecDepth 100000 in
/-- a number, or it gives up -/
theorem num_or (X : Int → Prop) (g gb ob c : Nat) (L : List Int) (i n : Nat) (low high : Int) (w : World) (hw : Ok w) (H : PB w g (some ⟨gb, ob, none⟩) c L i) (hi : i ≤ L.length) (hA : BytesAt w (some ⟨gb, ob, none⟩) L) (hgb : gb ≠ g) (hb : bytesOk L) (hn : 1 ≤ n ∧ n ≤ 8) (hc : L.length ≤ c) (hL : L.length ≤ 1073741824) (hg : 4 ≤ g)
    (hX : ∀ e, (numX L n low high (.ok i)).2 = .error e → X e) :
    Calls Tryd.prog 56 #[.pointer (some ⟨g, 0, none⟩), .int .i64 n, .int .u64 low, .int .u64 high] w fun e w' => w.grownBy w' (some g) ∧ ((∃ c, X c ∧ e = gaveUp c) ∨ ∃ v j, numX L n low high (.ok i) = (v, .ok j) ∧ e = .returned (.int .u64 v) ∧ PB w' g (some ⟨gb, ob, none⟩) c L j ∧ j ≤ L.length ∧ low ≤ v ∧ v ≤ high ∧ 0 ≤ v) := by
  have hT := take_or X g gb ob c L i n w hw H hi hA hgb (by omega) hc hL hg (fun e h => hX e (by unfold numX; split <;> rename_i h2 <;> rw [h2] at h <;> first | exact h | cases h))
  have HT := Lib.hid hT
  have HX := Lib.hid hX
  clear hT hX hA H
  go_enter Tryd.func56, Tryd.ntmps56
  go_wp2_with (go_at_call 37; refine HT.out.mono ?_; rintro e wx ⟨gr, ⟨cc, hcc, he⟩ | ⟨bs, o', d, et, rfl, hd, hbn, hB, HR, hle⟩⟩ <;> try (unfold gaveUp at he; subst he))
  · exact ⟨rfl, gr, .inl ⟨cc, hcc, rfl⟩⟩
  · have hbk : bytesOk bs := by have := (takeX_ok hb n (.ok i)).1; rw [et] at this; exact this
    subst hbn
    have hnx : numX L bs.length low high (.ok i) = if low ≤ leV bs ∧ leV bs ≤ high then (leV bs, .ok (i + bs.length)) else (0, .error 191) := by unfold numX; rw [et]
    have HNX := Lib.hid hnx
    have HC : Hid (∀ j (h : j < bs.length), wx.cell? ⟨gb, o' + j, none⟩ = some (.int .u8 (bs.getD j 0))) := Lib.hid (fun j hj => by
      rcases hB with h | ⟨g', o2, e, _, h⟩
      · rw [h] at hj; simp at hj
      · injection e with e; injection e with e1 e2; subst e1 e2
        rw [show bs.getD j 0 = bs[j] by simp [List.getD, hj]]; exact h j _ (List.getElem?_eq_getElem hj))
    have HS := Lib.hid (fun j h => or_step hbk (i := j) h (by omega))
    have HBK := Lib.hid hbk
    have HV := leV_u64 hbk (by omega)
    have HF := Lib.hid (And.intro gr (And.intro HR hle))
    clear et gr HR hnx hB hbk
    go_loop [9, 16] (fun v9 v16 => ∃ k : Nat, k ≤ bs.length ∧ v9 = .int .u64 (leV (bs.take k)) ∧ v16 = .int .i64 k) (fun _ v16 => bs.length - (intOf v16).toNat)
    case atStart => exact ⟨0, Nat.zero_le _, rfl, rfl⟩
    case round =>
      obtain ⟨k, hk, rfl, rfl⟩ := hrel
      by_cases hlt : k < bs.length
      · have hcell := HC.out k hlt
        have hst := HS.out k hlt
        have hgd := getD_byte HBK.out k
        obtain ⟨b, hbb⟩ : ∃ b, bs.getD k 0 = b := ⟨_, rfl⟩
        rw [hbb] at hcell hst hgd
        have wb : IntKind.u64.wrap b = b := u64_in ⟨by omega, by omega⟩
        have w8 : IntKind.i64.wrap (8 * (k : Int)) = 8 * (k : Int) := IntWalk.i64_in _ ⟨by omega, by omega⟩
        have d1 : decide ((k : Int) < (bs.length : Int)) = true := decide_eq_true (by omega)
        have d2 : (0 : Int) ≤ (k : Int) := by omega
        have d3 : (k : Int) < (bs.length : Int) := by omega
        clear hgd
        go_wp2
        go_round
        case rel => exact ⟨k + 1, by omega, rfl, by go_num⟩
        case measure => simp [intOf]; omega
      · obtain rfl : k = bs.length := by omega
        have d0 : decide ((bs.length : Int) < (bs.length : Int)) = false := decide_eq_false (by omega)
        rw [List.take_length]
        by_cases hlow : low ≤ leV bs
        · have d5 : decide (low ≤ leV bs) = true := decide_eq_true hlow
          by_cases hhigh : leV bs ≤ high
          · have d6 : decide (leV bs ≤ high) = true := decide_eq_true hhigh
            have hn := HNX.out
            rw [if_pos ⟨hlow, hhigh⟩] at hn
            have HN := Lib.hid (And.intro hn (And.intro hlow hhigh))
            clear hn hlow hhigh hlt
            go_wp2_with (go_at_call 69; refine (must_yes _ _).mono ?_; rintro e wy ⟨rfl, rfl⟩)
            go_ret
            exact ⟨HF.out.1, .inr ⟨_, _, HN.out.1, rfl, HF.out.2.1, HF.out.2.2, HN.out.2.1, HN.out.2.2, HV.1⟩⟩
          · have d6 : decide (leV bs ≤ high) = false := decide_eq_false hhigh
            have hn := HNX.out
            rw [if_neg (fun h => hhigh h.2)] at hn
            have HN := Lib.hid hn
            clear hn hlow hhigh hlt
            go_wp2_with (go_at_call 69; refine (must_no _ _).mono ?_; rintro e wy ⟨he, rfl⟩; unfold gaveUp at he; subst he)
            exact ⟨rfl, HF.out.1, .inl ⟨191, HX.out _ (by rw [HN.out]), rfl⟩⟩
        · have d5 : decide (low ≤ leV bs) = false := decide_eq_false hlow
          have hn := HNX.out
          rw [if_neg (fun h => hlow h.1)] at hn
          have HN := Lib.hid hn
          clear hn hlow hlt
          go_wp2_with (go_at_call 69; refine (must_no _ _).mono ?_; rintro e wy ⟨he, rfl⟩; unfold gaveUp at he; subst he)
          exact ⟨rfl, HF.out.1, .inl ⟨191, HX.out _ (by rw [HN.out]), rfl⟩⟩
end Go.Proofs.YtlnaeppbhjmocaaDoor
set_option linter.unusedSimpArgs false
set_option linter.unusedVariables false
namespace Go.Proofs.YtlnaeppbhjmocaaDoor
open Go.RowKit Go.Proofs Go.Proofs.YtlnaeppbhjmocaaDoorW.PrintWords Go.Proofs.YtlnaeppbhjmocaaDoorW.PrintMore

theorem num_yes (g gb ob c : Nat) (L : List Int) (i n : Nat) (low high : Int) (w : World) (hw : Ok w) (H : PB w g (some ⟨gb, ob, none⟩) c L i) (hi : i ≤ L.length) (hA : BytesAt w (some ⟨gb, ob, none⟩) L) (hgb : gb ≠ g) (hb : bytesOk L) (hn : 1 ≤ n ∧ n ≤ 8) (hc : L.length ≤ c) (hL : L.length ≤ 1073741824) (hg : 4 ≤ g)
    {v : Int} {j : Nat} (h : numX L n low high (.ok i) = (v, .ok j)) :
    Calls Tryd.prog 56 #[.pointer (some ⟨g, 0, none⟩), .int .i64 n, .int .u64 low, .int .u64 high] w fun e w' => e = .returned (.int .u64 v) ∧ w.grownBy w' (some g) ∧ PB w' g (some ⟨gb, ob, none⟩) c L j := by
  refine (num_or (fun _ => False) g gb ob c L i n low high w hw H hi hA hgb hb hn hc hL hg (fun e he => by rw [h] at he; cases he)).mono ?_
  rintro e w' ⟨gr, ⟨cc, hcc, _⟩ | ⟨v', j', h', rfl, HR, _⟩⟩
  · exact hcc.elim
  · rw [h] at h'
    simp only [Prod.mk.injEq, Except.ok.injEq] at h'
    obtain ⟨rfl, rfl⟩ := h'
    exact ⟨rfl, gr, HR⟩
theorem num_no (g gb ob c : Nat) (L : List Int) (i n : Nat) (low high : Int) (w : World) (hw : Ok w) (H : PB w g (some ⟨gb, ob, none⟩) c L i) (hi : i ≤ L.length) (hA : BytesAt w (some ⟨gb, ob, none⟩) L) (hgb : gb ≠ g) (hb : bytesOk L) (hn : 1 ≤ n ∧ n ≤ 8) (hc : L.length ≤ c) (hL : L.length ≤ 1073741824) (hg : 4 ≤ g)
    {v : Int} {x : Int} (h : numX L n low high (.ok i) = (v, .error x)) :
    Calls Tryd.prog 56 #[.pointer (some ⟨g, 0, none⟩), .int .i64 n, .int .u64 low, .int .u64 high] w fun e w' => e = gaveUp x ∧ w.grownBy w' (some g) := by
  refine (num_or (fun e => e = x) g gb ob c L i n low high w hw H hi hA hgb hb hn hc hL hg (fun e he => by rw [h] at he; injection he with he; exact he.symm)).mono ?_
  rintro e w' ⟨gr, ⟨cc, rfl, rfl⟩ | ⟨v', j', h', _⟩⟩
  · exact ⟨rfl, gr⟩
  · rw [h] at h'
    simp at h'
theorem tk_yes (g gb ob c : Nat) (L : List Int) (i n : Nat) (w : World) (hw : Ok w) (H : PB w g (some ⟨gb, ob, none⟩) c L i) (hi : i ≤ L.length) (hA : BytesAt w (some ⟨gb, ob, none⟩) L) (hgb : gb ≠ g) (hn : n ≤ 1099511627776) (hc : L.length ≤ c) (hL : L.length ≤ 1073741824) (hg : 4 ≤ g)
    {bs : List Int} {j : Nat} (h : takeX L n (.ok i) = (bs, .ok j)) :
    Calls Tryd.prog 37 #[.pointer (some ⟨g, 0, none⟩), .int .i64 n] w fun e w' => ∃ o' d, e = .returned (.slice (some ⟨gb, o', none⟩) bs.length d) ∧ bs.length ≤ d ∧ BytesAt w' (some ⟨gb, o', none⟩) bs ∧ w.grownBy w' (some g) ∧ PB w' g (some ⟨gb, ob, none⟩) c L j := by
  refine (take_or (fun _ => False) g gb ob c L i n w hw H hi hA hgb hn hc hL hg (fun e he => by rw [h] at he; cases he)).mono ?_
  rintro e w' ⟨gr, ⟨cc, hcc, _⟩ | ⟨bs', o', d, h', rfl, hd, _, hB, HR, _⟩⟩
  · exact hcc.elim
  · rw [h] at h'
    simp only [Prod.mk.injEq, Except.ok.injEq] at h'
    obtain ⟨rfl, rfl⟩ := h'
    exact ⟨o', d, rfl, hd, hB, gr, HR⟩
theorem tk_no (g gb ob c : Nat) (L : List Int) (i n : Nat) (w : World) (hw : Ok w) (H : PB w g (some ⟨gb, ob, none⟩) c L i) (hi : i ≤ L.length) (hA : BytesAt w (some ⟨gb, ob, none⟩) L) (hgb : gb ≠ g) (hn : n ≤ 1099511627776) (hc : L.length ≤ c) (hL : L.length ≤ 1073741824) (hg : 4 ≤ g)
    {bs : List Int} {x : Int} (h : takeX L n (.ok i) = (bs, .error x)) :
    Calls Tryd.prog 37 #[.pointer (some ⟨g, 0, none⟩), .int .i64 n] w fun e w' => e = gaveUp x ∧ w.grownBy w' (some g) := by
  refine (take_or (fun e => e = x) g gb ob c L i n w hw H hi hA hgb hn hc hL hg (fun e he => by rw [h] at he; injection he with he; exact he.symm)).mono ?_
  rintro e w' ⟨gr, ⟨cc, rfl, rfl⟩ | ⟨bs', o', d, h', _⟩⟩
  · exact ⟨rfl, gr⟩
  · rw [h] at h'
    simp at h'
theorem pb_ne {w : World} {g : Nat} {A : Option Addr} {c : Nat} {L : List Int} {i : Nat} (h : PB w g A c L i) {base size n : Nat} {e : TypeId} {v : Value} {xs : List Value} (O : w.ownsRow base e size v n xs) (he : e ≠ 67) : some g ≠ v.ownBlock := own_ne3 O h he

theorem filledP {bs : List Int} (h : 0 < bs.length) (x y : Bool) : filledB bs x y = (no16 bs && !(x && bs.getD 0 0 == 0) && !(y && bs.getD (bs.length - 1) 0 == 0)) := by
  unfold filledB
  have h1 : bs.isEmpty = false := by cases bs with
    | nil => simp at h
    | cons _ _ => rfl
  have h2 : bs.headD 1 = bs.getD 0 0 := by cases bs with
    | nil => simp at h
    | cons _ _ => rfl
  have h3 : bs.getLastD 1 = bs.getD (bs.length - 1) 0 := by
    rw [List.getLastD_eq_getLast?, List.getLast?_eq_getElem?, List.getD_eq_getElem?_getD, List.getElem?_eq_getElem (show bs.length - 1 < bs.length by omega)]
    rfl
  rw [h1, h2, h3]; simp
/-- what data ends with: it gives up, or it tells the bytes -/
def DataOut (X : Int → Prop) (w : World) (B : Nat) (g : Nat) (A : Option Addr) (c : Nat) (L : List Int) (P : List Int × Er) (e : Ending) (w' : World) : Prop :=
  (∃ x, X x ∧ e = gaveUp x) ∨ ∃ bs j a d, P = (bs, .ok j) ∧ e = .returned (.slice a bs.length d) ∧ OwnB w' B (.slice a bs.length d) bs ∧ PB w' g A c L j ∧ j ≤ L.length

set_option maxHeartbeats 25600000 in
set_option maxRecDepth 100000 in
theorem pdata_any (X : Int → Prop) (g gb ob c : Nat) (L : List Int) (i : Nat) (w : World) (hw : Ok w) (H : PB w g (some ⟨gb, ob, none⟩) c L i) (hi : i ≤ L.length) (hA : BytesAt w (some ⟨gb, ob, none⟩) L) (hgb : gb ≠ g) (hb : bytesOk L) (hc : L.length ≤ c) (hL : L.length ≤ 1073741824) (hg : 4 ≤ g)
    (hX : ∀ e, (dataR L false (numX L 4 0 16777216 (.ok i)).1 (numX L 4 0 16777216 (.ok i)).2).2 = .error e → X e) :
    Calls Tryd.prog 71 #[.pointer (some ⟨g, 0, none⟩)] w fun e w' => w.grownBy w' (some g) ∧ DataOut X w w.heap.size g (some ⟨gb, ob, none⟩) c L (dataR L false (numX L 4 0 16777216 (.ok i)).1 (numX L 4 0 16777216 (.ok i)).2) e w' := by
  have hnr := numX_rg (L := L) (low := 0) (high := 16777216) (.inl (by omega)) (by omega) 4 (.ok i) hb
  obtain ⟨⟨n, on⟩, e1⟩ : ∃ p, numX L 4 0 16777216 (.ok i) = p := ⟨_, rfl⟩
  rw [e1] at hnr hX ⊢
  dsimp only at hnr hX ⊢
  have hgS : ∀ a, ((some ⟨gb, ob, none⟩) : Option Addr) = some a → some a.block ≠ some g := fun a e k => by injection e with e; subst e; injection k with k; exact hgb k
  have hgw : g < w.heap.size := (Array.getElem?_eq_some_iff.mp H).1
  cases on with
  | error x =>
    have hx : X x := hX x (by unfold dataR; rw [dataX_error])
    have HN := Lib.hid (num_no g gb ob c L i 4 0 16777216 w hw H hi hA hgb hb (by omega) hc hL hg e1)
    clear e1 hnr H hA hX
    go_enter Tryd.func71, Tryd.ntmps71
    go_wp2_with (go_at_call 56; refine HN.out.mono ?_; rintro e wx ⟨he, q⟩; unfold gaveUp at he; subst he)
    exact ⟨rfl, q, .inl ⟨x, hx, rfl⟩⟩
  | ok j =>
    obtain ⟨i0, ei, _, hjl⟩ := numX_on (j := j) (by rw [e1])
    have HN := Lib.hid (num_yes g gb ob c L i 4 0 16777216 w hw H hi hA hgb hb (by omega) hc hL hg e1)
    obtain ⟨PP, hPP⟩ : ∃ P, dataR L false n (.ok j) = P := ⟨_, rfl⟩
    rw [hPP] at hX ⊢
    unfold dataR at hPP
    have HPP := Lib.hid hPP
    have HX := Lib.hid hX
    have HBy := Lib.hid hb
    have hNy := Lib.hid (fun (W : World) (gr : w.grownBy W (some g)) i HR hi s lo hi' h1 v j h => num_yes g gb ob c L i s lo hi' W (hw.grown hg gr) HR hi (hA.grown gr hgS) hgb hb h1 hc hL hg (v := v) (j := j) h)
    have hNn := Lib.hid (fun (W : World) (gr : w.grownBy W (some g)) i HR hi s lo hi' h1 v x h => num_no g gb ob c L i s lo hi' W (hw.grown hg gr) HR hi (hA.grown gr hgS) hgb hb h1 hc hL hg (v := v) (x := x) h)
    have hTy := Lib.hid (fun (W : World) (gr : w.grownBy W (some g)) i HR hi k h1 bs j h => tk_yes g gb ob c L i k W (hw.grown hg gr) HR hi (hA.grown gr hgS) hgb h1 hc hL hg (bs := bs) (j := j) h)
    have hTn := Lib.hid (fun (W : World) (gr : w.grownBy W (some g)) i HR hi k h1 bs x h => tk_no g gb ob c L i k W (hw.grown hg gr) HR hi (hA.grown gr hgS) hgb h1 hc hL hg (bs := bs) (x := x) h)
    have hok := Lib.hid (fun (W : World) (gr : w.grownBy W (some g)) => hw.grown hg gr)
    obtain ⟨iy, hiy, hzy, hsy, hyy⟩ := info_byte
    have HIY := Lib.hid hiy
    have x1 : IntKind.i64.wrap n = n := IntWalk.i64_in _ ⟨by omega, by omega⟩
    clear e1 hPP hX hb H hA hiy
    go_enter Tryd.func71, Tryd.ntmps71
    go_upto_block 0 with (go_at_call 56; refine HN.out.mono ?_; rintro e wa ⟨rfl, gr, HR⟩)
    clear x1
    have GR := Lib.hid gr
    have HR0 := Lib.hid HR
    clear gr HR
    go_wp2_with fail
    go_loopg [4, 5] (n.toNat + 1) (fun k v4 v5 wc => ∃ (out : List Int) (a : Option Addr) (d : Nat) (last : Int) (j : Nat), Hid (dataX L false n k out.length out last (.ok j) = PP) ∧ (n - out.length).toNat < k ∧ (out.length : Int) ≤ n ∧ v4 = .slice a out.length d ∧ v5 = .int .i64 last ∧ -1 ≤ last ∧ last ≤ 1 ∧ j ≤ L.length ∧
      Hid (w.grownBy wc (some g)) ∧ Hid (PB wc g (some ⟨gb, ob, none⟩) c L j) ∧ Hid (OwnB wc w.heap.size (.slice a out.length d) out))
    case atStart => exact ⟨[], none, 0, -1, j, HPP, by simp, by simp; omega, rfl, rfl, by omega, by omega, hjl, GR, HR0, Lib.hid (OwnB.nil _ _)⟩
    case round =>
      clear GR HR0
      obtain ⟨out, a, d, last, j, HD, hfu, hon, rfl, rfl, hl0, hl1, hjl, gr, HR, O⟩ := hrel
      replace gr := gr.out
      replace HR := HR.out
      cases gk with
      | zero => exact absurd hfu (by omega)
      | succ k =>
        by_cases hend : n ≤ out.length
        · have d1 : decide ((out.length : Int) < n) = false := decide_eq_false (by omega)
          have hPo : PP = (out, .ok j) := by
            have h := HD.out
            simp only [dataX] at h
            rw [if_neg (by omega)] at h
            exact h.symm
          have HPo := Lib.hid hPo
          have HF := Lib.hid (And.intro gr (And.intro HR O.out))
          have hjl2 := hjl
          clear hPo gr O HD HR
          go_wp2
          go_ret
          exact ⟨HF.out.1, .inr ⟨out, j, a, d, HPo.out, rfl, HF.out.2.2, HF.out.2.1, hjl2⟩⟩
        · have htl : (out.length : Int) < n := by omega
          have d1 : decide ((out.length : Int) < n) = true := decide_eq_true htl
          have hH := HD.out
          simp only [dataX, if_pos htl] at hH
          have har := numX_rg (L := L) (low := 0) (high := 1) (.inl (by omega)) (by omega) 1 (.ok j) HBy.out
          obtain ⟨⟨av, a1⟩, b1⟩ : ∃ p, numX L 1 0 1 (.ok j) = p := ⟨_, rfl⟩
          rw [b1] at hH har
          dsimp only at hH har
          cases a1 with
          | error x =>
            have hx : Hid (X x) := Lib.hid (HX.out x (by rw [← hH]; rfl))
            have HN1 := Lib.hid (hNn.out wr gr j HR hjl 1 0 1 (by omega) av x b1)
            have HG := Lib.hid gr
            clear hH b1 HD gr HR O
            go_wp2_with (go_at_call 56; refine HN1.out.mono ?_; rintro e wx ⟨he, q⟩; unfold gaveUp at he; subst he; (have HQ := Lib.hid q); clear q)
            exact ⟨rfl, grown_trans HG.out HQ.out, .inl ⟨x, hx.out, rfl⟩⟩
          | ok j1 =>
            obtain ⟨_, _, _, hj1l⟩ := numX_on (j := j1) (by rw [b1])
            have hm1 := must_or
            have HN1 := Lib.hid (hNy.out wr gr j HR hjl 1 0 1 (by omega) av j1 b1)
            have wav : IntKind.i64.wrap av = av := IntWalk.i64_in _ ⟨by omega, by omega⟩
            clear b1 hm1
            by_cases hal : av = last
            · subst hal
              have d2 : (av != av) = false := bne_self_eq_false _
              have hx : Hid (X 191) := Lib.hid (HX.out 191 (by rw [← hH]; simp [orFail, numX_error]))
              have HG := Lib.hid gr
              clear hH HD gr HR O
              go_wp2_with (first
                | (go_at_call 56; refine HN1.out.mono ?_; rintro e wx ⟨rfl, q, _⟩; (have HQ := Lib.hid q); clear q)
                | (go_at_call 69; refine (must_no _ _).mono ?_; rintro e wy ⟨he, rfl⟩; unfold gaveUp at he; subst he))
              exact ⟨rfl, grown_trans HG.out HQ.out, .inl ⟨191, hx.out, rfl⟩⟩
            · have d2 : (av != last) = true := bne_iff_ne.2 hal
              rw [decide_eq_false hal] at hH
              rw [show orFail (.ok j1) false = .ok j1 from rfl] at hH
              obtain ⟨low, blo⟩ : ∃ p : Int, (if av = 0 then 16 else 1) = p := ⟨_, rfl⟩
              rw [blo] at hH
              have hkr := numX_rg (L := L) (low := low) (high := n - out.length) (.inr trivial) (by omega) 4 (.ok j1) HBy.out
              obtain ⟨⟨kv, k1⟩, b3⟩ : ∃ p, numX L 4 low (n - out.length) (.ok j1) = p := ⟨_, rfl⟩
              rw [b3] at hH hkr
              dsimp only at hH hkr
              have tok1 : True := trivial
              have HG := Lib.hid gr
              by_cases hav : av = 0
              · rw [if_pos hav] at blo
                subst hav blo
                have d3 : decide (n - (out.length : Int) < 0) = false := decide_eq_false (by omega)
                have wsb : IntKind.u64.wrap (n - (out.length : Int)) = n - (out.length : Int) := u64_in ⟨by omega, by omega⟩
                cases k1 with
                | error x =>
                  have hx : Hid (X x) := Lib.hid (HX.out x (by rw [← hH]))
                  clear hH HD O
                  go_wp2_with (first
                    | (go_at_call 56; have _t := tok1; refine HN1.out.mono ?_; rintro e wx ⟨rfl, q, HR1⟩; have gr1 := grown_trans HG.out q; clear q gr tok1; have tok2 : True := trivial)
                    | (go_at_call 69; refine (must_yes _ _).mono ?_; rintro e wy ⟨rfl, rfl⟩)
                    | (go_at_call 56; have _t := tok2; (have ct := hNn.out _ gr1 j1 HR1 hj1l 4 16 (n - out.length) (by omega) kv x b3); refine ct.mono ?_; rintro e wz ⟨he, q⟩; unfold gaveUp at he; subst he; (have HQ := Lib.hid (grown_trans gr1 q)); clear q))
                  exact ⟨rfl, HQ.out, .inl ⟨x, hx.out, rfl⟩⟩
                | ok j2 =>
                  obtain ⟨_, _, _, hj2l⟩ := numX_on (j := j2) (by rw [b3])
                  have hk16 := (numX_low b3).1
                  obtain ⟨m, hm⟩ : ∃ m : Nat, kv = (m : Int) := ⟨_, (Int.toNat_of_nonneg hkr.1).symm⟩
                  subst hm
                  dsimp only at hH
                  rw [if_neg (by decide), Int.toNat_natCast, if_neg (by decide)] at hH
                  have HH := Lib.hid hH
                  have wm : IntKind.i64.wrap (m : Int) = (m : Int) := IntWalk.i64_in _ ⟨by omega, by omega⟩
                  have B3 := Lib.hid b3
                  have hsz := gr.size
                  clear hH HD b3 wav
                  go_wp2_with (first
                    | (go_at_call 56; have _t := tok1; refine HN1.out.mono ?_; rintro e wx ⟨rfl, q, HR1⟩; have gr1 := grown_trans HG.out q; have O1 := O.out.keep q hgw; clear q gr HR tok1; have tok2 : True := trivial)
                    | (go_at_call 69; refine (must_yes _ _).mono ?_; rintro e wy ⟨rfl, rfl⟩)
                    | (go_at_call 56; have _t := tok2; (have ct := hNy.out _ gr1 j1 HR1 hj1l 4 16 (n - out.length) (by omega) m j2 B3.out); refine ct.mono ?_; rintro e wz ⟨rfl, q, HR2⟩; have gr2 := grown_trans gr1 q; have O2 := O1.keep q hgw; clear q gr1 HR1 O1 ct; go_loud (obtain ⟨v5, w5, hap, O5, q5, hob⟩ := append_zeros 22 w.heap.size _ out m (by omega) (by omega) wz O2 (by omega) gr2.size); (obtain ⟨a5, d5, hv5⟩ := O5.form); subst hv5; go_loud (have HF := Lib.hid (And.intro (grown_own gr2 q5 (fun k hk => (O2.lt hk).1)) (And.intro (HR2.grown q5 (pb_ne HR2 O2 (by decide))) O5))); clear O2 O5 q5 hob HR2 gr2)
                    | (at_builtin; refine wpList_append_run rfl _ _ 22 3 rfl (by simp [Act.eval]) (by simp [Act.eval]) hap ?_))
                  go_roundg k
                  case measure => omega
                  case rel =>
                    refine ⟨out ++ List.replicate m 0, a5, d5, 0, j2, Lib.hid ?_, ?_, ?_, by simp, rfl, by omega, by omega, hj2l, Lib.hid HF.out.1, Lib.hid HF.out.2.1, Lib.hid HF.out.2.2⟩
                    · have := HH.out
                      rw [List.length_append, List.length_replicate, Int.natCast_add]
                      exact this
                    · simp; omega
                    · simp; omega
              · obtain rfl : av = 1 := by omega
                rw [if_neg hav] at blo
                subst blo
                have wsb : IntKind.u64.wrap (n - (out.length : Int)) = n - (out.length : Int) := u64_in ⟨by omega, by omega⟩
                cases k1 with
                | error x =>
                  have hx : Hid (X x) := Lib.hid (HX.out x (by rw [← hH]))
                  clear hH HD O hav
                  go_wp2_with (first
                    | (go_at_call 56; have _t := tok1; refine HN1.out.mono ?_; rintro e wx ⟨rfl, q, HR1⟩; have gr1 := grown_trans HG.out q; clear q gr tok1; have tok2 : True := trivial)
                    | (go_at_call 69; refine (must_yes _ _).mono ?_; rintro e wy ⟨rfl, rfl⟩)
                    | (go_at_call 56; have _t := tok2; (have ct := hNn.out _ gr1 j1 HR1 hj1l 4 1 (n - out.length) (by omega) kv x b3); refine ct.mono ?_; rintro e wz ⟨he, q⟩; unfold gaveUp at he; subst he; (have HQ := Lib.hid (grown_trans gr1 q)); clear q))
                  exact ⟨rfl, HQ.out, .inl ⟨x, hx.out, rfl⟩⟩
                | ok j2 =>
                  obtain ⟨_, _, _, hj2l⟩ := numX_on (j := j2) (by rw [b3])
                  have hk1 := (numX_low b3).1
                  obtain ⟨m, hm⟩ : ∃ m : Nat, kv = (m : Int) := ⟨_, (Int.toNat_of_nonneg hkr.1).symm⟩
                  subst hm
                  have wm : IntKind.i64.wrap (m : Int) = (m : Int) := IntWalk.i64_in _ ⟨by omega, by omega⟩
                  dsimp only at hH
                  rw [if_pos rfl, Int.toNat_natCast, if_neg (by decide)] at hH
                  have B3 := Lib.hid b3
                  have hsz := gr.size
                  obtain ⟨⟨bs, o3⟩, b4⟩ : ∃ p, takeX L m (.ok j2) = p := ⟨_, rfl⟩
                  rw [b4] at hH
                  dsimp only at hH
                  have tok5 : True := trivial
                  clear b3 wav hav
                  cases o3 with
                  | error x =>
                    have hx : Hid (X x) := Lib.hid (HX.out x (by rw [← hH]; simp [orFail, dataX_error]))
                    have B4 := Lib.hid b4
                    clear hH HD O b4
                    go_wp2_with (first
                      | (go_at_call 56; have _t := tok1; refine HN1.out.mono ?_; rintro e wx ⟨rfl, q, HR1⟩; have gr1 := grown_trans HG.out q; clear q gr HR tok1; have tok2 : True := trivial)
                      | (go_at_call 69; refine (must_yes _ _).mono ?_; rintro e wy ⟨rfl, rfl⟩)
                      | (go_at_call 56; have _t := tok2; (have ct := hNy.out _ gr1 j1 HR1 hj1l 4 1 (n - out.length) (by omega) m j2 B3.out); refine ct.mono ?_; rintro e wz ⟨rfl, q, HR2⟩; have gr2 := grown_trans gr1 q; clear q gr1 HR1 ct)
                      | (go_at_call 37; (have ct := hTn.out _ gr2 j2 HR2 hj2l m (by omega) bs x B4.out); refine ct.mono ?_; rintro e wz2 ⟨he, q⟩; unfold gaveUp at he; subst he; (have HQ := Lib.hid (grown_trans gr2 q)); clear q))
                    exact ⟨rfl, HQ.out, .inl ⟨x, hx.out, rfl⟩⟩
                  | ok j3 =>
                    have hbl := takeX_len b4
                    obtain ⟨hbl, hj3l, _⟩ := hbl
                    subst hbl
                    have B4 := Lib.hid b4
                    have hbp : 0 < bs.length := by omega
                    have hfe := filledP hbp (decide (last = 0)) (decide ((out.length : Int) + (bs.length : Int) < n))
                    obtain ⟨fb, hfb⟩ : ∃ f, filledB bs (decide (last = 0)) (decide ((out.length : Int) + (bs.length : Int) < n)) = f := ⟨_, rfl⟩
                    rw [hfb] at hH hfe
                    obtain ⟨b0, hb0⟩ : ∃ b, bs.getD 0 0 = b := ⟨_, rfl⟩
                    obtain ⟨bl, hbl⟩ : ∃ b, bs.getD (bs.length - 1) 0 = b := ⟨_, rfl⟩
                    rw [hb0, hbl] at hfe
                    obtain ⟨e2, he2⟩ : ∃ b, (last == 0) = b := ⟨_, rfl⟩
                    have he2' : decide (last = 0) = e2 := by rw [← he2]; rfl
                    obtain ⟨e3, he3⟩ : ∃ b, (b0 == 0) = b := ⟨_, rfl⟩
                    obtain ⟨e4, he4⟩ : ∃ b, decide ((out.length : Int) + (bs.length : Int) < n) = b := ⟨_, rfl⟩
                    obtain ⟨e5, he5⟩ : ∃ b, (bl == 0) = b := ⟨_, rfl⟩
                    obtain ⟨e6, he6⟩ : ∃ b, no16 bs = b := ⟨_, rfl⟩
                    rw [he2', he3, he4, he5, he6] at hfe
                    have HFE := Lib.hid hfe
                    have HH := Lib.hid hH
                    have E6 := Lib.hid he6
                    have B0 := Lib.hid hb0
                    have BL := Lib.hid hbl
                    have wb1 : IntKind.i64.wrap ((bs.length : Int) - 1) = (bs.length : Int) - 1 := IntWalk.i64_in _ ⟨by omega, by omega⟩
                    have ws1 : IntKind.i64.wrap ((out.length : Int) + (bs.length : Int)) = (out.length : Int) + (bs.length : Int) := IntWalk.i64_in _ ⟨by omega, by omega⟩
                    have i0 : (0 : Int) < (bs.length : Int) := by omega
                    have i1 : (0 : Int) ≤ (bs.length : Int) - 1 := by omega
                    have i2 : (bs.length : Int) - 1 < (bs.length : Int) := by omega
                    clear hH HD b4 hfe hfb hb0 hbl he2' he6
                    go_upto_region 15 with (first
                      | (go_at_call 56; have _t := tok1; refine HN1.out.mono ?_; rintro e wx ⟨rfl, q, HR1⟩; have gr1 := grown_trans HG.out q; have O1 := O.out.keep q hgw; clear q gr HR tok1; have tok2 : True := trivial)
                      | (go_at_call 69; refine (must_yes _ _).mono ?_; rintro e wy ⟨rfl, rfl⟩)
                      | (go_at_call 56; have _t := tok2; (have ct := hNy.out _ gr1 j1 HR1 hj1l 4 1 (n - out.length) (by omega) bs.length j2 B3.out); refine ct.mono ?_; rintro e wz ⟨rfl, q, HR2⟩; have gr2 := grown_trans gr1 q; have O2 := O1.keep q hgw; clear q gr1 HR1 O1 ct)
                      | (go_at_call 37; (have ct := hTy.out _ gr2 j2 HR2 hj2l bs.length (by omega) bs j3 B4.out); refine ct.mono ?_; rintro e wt ⟨o', dt, rfl, hdt, hBt, q, HR3⟩; have gr3 := grown_trans gr2 q; have O3 := O2.keep q hgw; clear q gr2 HR2 O2 ct)
                      | (go_at_call 79; (have ct := nextHole_any _ dt bs hdt (by omega) wt (hok.out _ gr3) hBt); refine ct.mono ?_; rintro e wn ⟨r1, r2, rfl, hr1, q⟩; have gr4 := grown_fr gr3 q; have O4 := O3.fr q; have HB4 := hBt.fr q; have HR4 := HR3.fr q; rw [E6.out] at hr1; clear q gr3 O3 HR3 ct))
                    have k0 := bytes_cell HB4 0 hbp
                    have kl := bytes_cell HB4 (bs.length - 1) (by omega)
                    rw [B0.out, Nat.add_zero] at k0
                    rw [BL.out] at kl
                    have HF4 := Lib.hid (And.intro gr4 (And.intro O4 (And.intro HB4 HR4)))
                    clear gr4 O4 HB4 HR4 hBt wb1
                    have wb1 : IntKind.i64.wrap ((bs.length : Int) - 1) = (bs.length : Int) - 1 := IntWalk.i64_in _ ⟨by omega, by omega⟩
                    have hxf : fb = false → X 191 := fun h => HX.out 191 (by
                      rw [← HH.out, h]; simp [orFail, dataX_error])
                    have HXF := Lib.hid hxf
                    clear hxf
                    go_cut [] (fun wc => fb = true ∧ wc = wn)
                    case first =>
                      cases e6 with
                      | false =>
                        have hfb : fb = false := by rw [HFE.out]; rfl
                        have hx := Lib.hid (HXF.out hfb)
                        clear hfb
                        go_wp2_with (go_at_call 69; refine (must_no _ _).mono ?_; rintro e wy ⟨he, rfl⟩; unfold gaveUp at he; subst he)
                        exact ⟨rfl, HF4.out.1, .inl ⟨191, hx.out, rfl⟩⟩
                      | true =>
                        cases e2 with
                        | false =>
                          cases e4 with
                          | false =>
                            go_wp2_with (go_at_call 69; refine (must_yes _ _).mono ?_; rintro e wy ⟨rfl, rfl⟩)
                            go_meet
                            exact ⟨by rw [HFE.out]; rfl, rfl⟩
                          | true =>
                            cases e5 with
                            | true =>
                              have hfb : fb = false := by rw [HFE.out]; rfl
                              have hx := Lib.hid (HXF.out hfb)
                              clear hfb
                              go_wp2_with (go_at_call 69; refine (must_no _ _).mono ?_; rintro e wy ⟨he, rfl⟩; unfold gaveUp at he; subst he)
                              exact ⟨rfl, HF4.out.1, .inl ⟨191, hx.out, rfl⟩⟩
                            | false =>
                              go_wp2_with (go_at_call 69; refine (must_yes _ _).mono ?_; rintro e wy ⟨rfl, rfl⟩)
                              go_meet
                              exact ⟨by rw [HFE.out]; rfl, rfl⟩
                        | true =>
                          cases e3 with
                          | true =>
                            have hfb : fb = false := by rw [HFE.out]; rfl
                            have hx := Lib.hid (HXF.out hfb)
                            clear hfb
                            go_wp2_with (go_at_call 69; refine (must_no _ _).mono ?_; rintro e wy ⟨he, rfl⟩; unfold gaveUp at he; subst he)
                            exact ⟨rfl, HF4.out.1, .inl ⟨191, hx.out, rfl⟩⟩
                          | false =>
                            cases e4 with
                            | false =>
                              go_wp2_with (go_at_call 69; refine (must_yes _ _).mono ?_; rintro e wy ⟨rfl, rfl⟩)
                              go_meet
                              exact ⟨by rw [HFE.out]; rfl, rfl⟩
                            | true =>
                              cases e5 with
                              | true =>
                                have hfb : fb = false := by rw [HFE.out]; rfl
                                have hx := Lib.hid (HXF.out hfb)
                                clear hfb
                                go_wp2_with (go_at_call 69; refine (must_no _ _).mono ?_; rintro e wy ⟨he, rfl⟩; unfold gaveUp at he; subst he)
                                exact ⟨rfl, HF4.out.1, .inl ⟨191, hx.out, rfl⟩⟩
                              | false =>
                                go_wp2_with (go_at_call 69; refine (must_yes _ _).mono ?_; rintro e wy ⟨rfl, rfl⟩)
                                go_meet
                                exact ⟨by rw [HFE.out]; rfl, rfl⟩
                    case rest =>
                      obtain ⟨hft, rfl⟩ := hcut
                      subst hft
                      obtain ⟨v5, w5, hap, O5, q5, hob⟩ := append_src Tryd.underlying22 HIY.out hzy hsy hyy rfl (by decide) 22 HF4.out.2.1 (some ⟨gb, o', none⟩) bs.length dt _ (bytes_src HF4.out.2.2.1 (fun h => by cases h)) (by simp) (map_one bs) (by unfold maxLen; omega) (by omega) HF4.out.1.size
                      have hO5 : OwnB w5 w.heap.size v5 (out ++ bs) := by unfold OwnB; rw [List.length_append, List.map_append]; exact O5
                      obtain ⟨a5, d5, hv5⟩ := hO5.form
                      subst hv5
                      have HF := Lib.hid (And.intro (grown_own HF4.out.1 q5 (fun k hk => (OwnB.lt HF4.out.2.1 hk).1)) (And.intro (HF4.out.2.2.2.grown q5 (pb_ne HF4.out.2.2.2 HF4.out.2.1 (by decide))) hO5))
                      clear O5 q5 hob hO5 k0 kl HFE
                      go_wp2_with (at_builtin; refine wpList_append_run rfl _ _ 22 22 rfl (by simp [Act.eval]) (by simp [Act.eval]) hap ?_)
                      go_roundg k
                      case measure => omega
                      case rel =>
                        refine ⟨out ++ bs, a5, d5, 1, j3, Lib.hid ?_, ?_, ?_, by simp, rfl, by omega, by omega, hj3l, Lib.hid HF.out.1, Lib.hid HF.out.2.1, Lib.hid HF.out.2.2⟩
                        · have := HH.out
                          rw [List.length_append, Int.natCast_add]
                          exact this
                        · simp; omega
                        · simp; omega
end Go.Proofs.YtlnaeppbhjmocaaDoor
