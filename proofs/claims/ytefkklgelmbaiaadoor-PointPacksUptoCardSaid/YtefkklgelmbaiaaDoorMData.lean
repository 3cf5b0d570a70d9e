/- The leaf functions of the point seat by their contracts: numbers, places, headers as bytes; which places, blocks, chunks, names, headers may be. -/
import Derived.Test.YtefkklgelmbaiaaDoorMBase
import Derived.Test.YtefkklgelmbaiaaDoorPPackx3
import Derived.Test.YtefkklgelmbaiaaDoorPatx1
import Derived.Test.YtefkklgelmbaiaaDoorPgoodChunksx1
import Derived.Test.YtefkklgelmbaiaaDoorPgoodBlockx1
import Derived.Test.YtefkklgelmbaiaaDoorPJoinx1
import Derived.Test.YtefkklgelmbaiaaDoorPtextx1
import Derived.IntWalk
import Derived.Test.YtefkklgelmbaiaaDoorMRegion
/- The point layer's data, in plain Lean and in memory: blocks, chunks, headers, objects, states; what may be packed, and the bytes. No conditions. -/
set_option linter.unusedSimpArgs false
set_option linter.unusedVariables false
namespace Go.Proofs.YtefkklgelmbaiaaDoor
open Go.RowKit Go.Proofs

structure Blk where
  st : Int
  hd : Int
  real : Bool
  live : Int
  deriving DecidableEq
structure Chk where
  c : Int
  b : Int
  p : Int
  n : Int
  deriving DecidableEq
structure Nod where
  ty : Int
  par : Int
  name : ByteArray
  size : Int
  mode : Int
  stamp : Int
  shadow : Int
  tgt : ByteArray
  deriving DecidableEq
structure Obj' where
  id : Int
  head : Bool
  nd : Nod
  pb : Int
  pp : Int
  cs : List Chk
  deriving DecidableEq
structure St where
  floor : Int
  next : Int
  cur : Int
  last : Int
  bs : List Blk
  os : List Obj'
instance : Inhabited Blk := ⟨⟨0, 0, false, 0⟩⟩
instance : Inhabited Chk := ⟨⟨0, 0, 0, 0⟩⟩
instance : Inhabited Nod := ⟨⟨0, 0, ⟨#[]⟩, 0, 0, 0, 0, ⟨#[]⟩⟩⟩
instance : Inhabited Obj' := ⟨⟨0, false, default, 0, 0, []⟩⟩
def Blk.wf (b : Blk) : Prop := I64 b.st ∧ U64 b.hd ∧ I64 b.live
def Chk.wf (c : Chk) : Prop := I64 c.c ∧ I64 c.b ∧ I64 c.p ∧ I64 c.n
def Nod.wf (n : Nod) : Prop := I64 n.ty ∧ I64 n.par ∧ I64 n.size ∧ I64 n.mode ∧ U64 n.stamp ∧ I64 n.shadow ∧ n.name.size ≤ 1099511627776 ∧ n.tgt.size ≤ 1099511627776
def Obj'.wf (o : Obj') : Prop := I64 o.id ∧ o.nd.wf ∧ I64 o.pb ∧ I64 o.pp ∧ (∀ c ∈ o.cs, c.wf) ∧ o.cs.length ≤ 1099511627776
def St.wf (s : St) : Prop := U64 s.floor ∧ U64 s.next ∧ I64 s.cur ∧ I64 s.last ∧ (∀ b ∈ s.bs, b.wf) ∧ (∀ o ∈ s.os, o.wf) ∧ s.bs.length ≤ 1099511627776 ∧ s.os.length ≤ 1099511627776

/-! ### In memory -/
def bcells (b : Blk) : List Value := [.int .i64 b.st, .int .u64 b.hd, .bool b.real, .int .i64 b.live]
def ccells (c : Chk) : List Value := [.int .i64 c.c, .int .i64 c.b, .int .i64 c.p, .int .i64 c.n]
def ncells (n : Nod) : List Value := [.int .i64 n.ty, .int .i64 n.par, .string n.name, .int .i64 n.size, .int .i64 n.mode, .int .u64 n.stamp, .int .i64 n.shadow, .string n.tgt]
def ocells (o : Obj') (a : Option Addr) (c : Nat) : List Value := [.int .i64 o.id, .bool o.head, .int .i64 o.nd.ty, .int .i64 o.nd.par, .string o.nd.name, .int .i64 o.nd.size, .int .i64 o.nd.mode, .int .u64 o.nd.stamp, .int .i64 o.nd.shadow, .string o.nd.tgt, .int .i64 o.pb, .int .i64 o.pp, .slice a o.cs.length c]
/-- cells that lie in a row, k of each -/
def Row (w : World) (A : Option Addr) (k : Nat) (cells : List (List Value)) : Prop :=
  cells = [] ∨ ∃ g o, A = some ⟨g, o, none⟩ ∧ g < w.heap.size ∧ ∀ i c, cells[i]? = some c → ∀ j v, j < k → c[j]? = some v → w.cell? ⟨g, o + i * k + j, none⟩ = some v
theorem Row.fr {w w' : World} {A : Option Addr} {k : Nat} {cells : List (List Value)} (h : Row w A k cells) (q : Fr w w') : Row w' A k cells := by
  rcases h with h | ⟨g, o, hA, hg, h⟩
  · exact .inl h
  · exact .inr ⟨g, o, hA, Nat.lt_of_lt_of_le hg q.size, fun i c hi j v hj hv => q.cell (h i c hi j v hj hv)⟩
def BRow (w : World) (A : Option Addr) (bs : List Blk) : Prop := Row w A 4 (bs.map bcells)
def CRow (w : World) (A : Option Addr) (cs : List Chk) : Prop := Row w A 4 (cs.map ccells)
theorem BRow.fr {w w' : World} {A : Option Addr} {bs : List Blk} (h : BRow w A bs) (q : Fr w w') : BRow w' A bs := Row.fr h q
theorem CRow.fr {w w' : World} {A : Option Addr} {cs : List Chk} (h : CRow w A cs) (q : Fr w w') : CRow w' A cs := Row.fr h q
/-- where the objects' own rows of chunks lie, and their capacities -/
abbrev Al := Nat → Option Addr × Nat
def ORow (w : World) (A : Option Addr) (al : Al) (os : List Obj') : Prop :=
  (os = [] ∨ ∃ g o0, A = some ⟨g, o0, none⟩ ∧ g < w.heap.size ∧ ∀ i o, os[i]? = some o → ∀ j v, j < 13 → (ocells o (al i).1 (al i).2)[j]? = some v → w.cell? ⟨g, o0 + i * 13 + j, none⟩ = some v) ∧
  ∀ i o, os[i]? = some o → CRow w (al i).1 o.cs ∧ o.cs.length ≤ (al i).2
theorem ORow.fr {w w' : World} {A : Option Addr} {al : Al} {os : List Obj'} (h : ORow w A al os) (q : Fr w w') : ORow w' A al os := by
  obtain ⟨h, h2⟩ := h
  refine ⟨?_, fun i o hi => ⟨(h2 i o hi).1.fr q, (h2 i o hi).2⟩⟩
  rcases h with h | ⟨g, o0, hA, hg, h⟩
  · exact .inl h
  · exact .inr ⟨g, o0, hA, Nat.lt_of_lt_of_le hg q.size, fun i c hi j v hj hv => q.cell (h i c hi j v hj hv)⟩

theorem BRow.get {w : World} {A : Option Addr} {bs : List Blk} (h : BRow w A bs) {i : Nat} (hi : i < bs.length) : ∃ g o, A = some ⟨g, o, none⟩ ∧
    w.cell? ⟨g, o + i * 4, none⟩ = some (.int .i64 bs[i].st) ∧ w.cell? ⟨g, o + i * 4 + 1, none⟩ = some (.int .u64 bs[i].hd) ∧ w.cell? ⟨g, o + i * 4 + 2, none⟩ = some (.bool bs[i].real) ∧ w.cell? ⟨g, o + i * 4 + 3, none⟩ = some (.int .i64 bs[i].live) := by
  rcases h with h | ⟨g, o, hA, _, h⟩
  · have := congrArg List.length h; simp at this; subst this; simp at hi
  · have hc : (bs.map bcells)[i]? = some (bcells bs[i]) := by simp [hi]
    exact ⟨g, o, hA, h i _ hc 0 _ (by omega) rfl, h i _ hc 1 _ (by omega) rfl, h i _ hc 2 _ (by omega) rfl, h i _ hc 3 _ (by omega) rfl⟩
theorem CRow.get {w : World} {A : Option Addr} {cs : List Chk} (h : CRow w A cs) {i : Nat} (hi : i < cs.length) : ∃ g o, A = some ⟨g, o, none⟩ ∧
    w.cell? ⟨g, o + i * 4, none⟩ = some (.int .i64 cs[i].c) ∧ w.cell? ⟨g, o + i * 4 + 1, none⟩ = some (.int .i64 cs[i].b) ∧ w.cell? ⟨g, o + i * 4 + 2, none⟩ = some (.int .i64 cs[i].p) ∧ w.cell? ⟨g, o + i * 4 + 3, none⟩ = some (.int .i64 cs[i].n) := by
  rcases h with h | ⟨g, o, hA, _, h⟩
  · have := congrArg List.length h; simp at this; subst this; simp at hi
  · have hc : (cs.map ccells)[i]? = some (ccells cs[i]) := by simp [hi]
    exact ⟨g, o, hA, h i _ hc 0 _ (by omega) rfl, h i _ hc 1 _ (by omega) rfl, h i _ hc 2 _ (by omega) rfl, h i _ hc 3 _ (by omega) rfl⟩
theorem ORow.get {w : World} {A : Option Addr} {al : Al} {os : List Obj'} (h : ORow w A al os) {i : Nat} (hi : i < os.length) : ∃ g o, A = some ⟨g, o, none⟩ ∧
    w.cell? ⟨g, o + i * 13, none⟩ = some (.int .i64 os[i].id) ∧ w.cell? ⟨g, o + i * 13 + 1, none⟩ = some (.bool os[i].head) ∧ w.cell? ⟨g, o + i * 13 + 2, none⟩ = some (.int .i64 os[i].nd.ty) ∧ w.cell? ⟨g, o + i * 13 + 3, none⟩ = some (.int .i64 os[i].nd.par) ∧
    w.cell? ⟨g, o + i * 13 + 4, none⟩ = some (.string os[i].nd.name) ∧ w.cell? ⟨g, o + i * 13 + 5, none⟩ = some (.int .i64 os[i].nd.size) ∧ w.cell? ⟨g, o + i * 13 + 6, none⟩ = some (.int .i64 os[i].nd.mode) ∧ w.cell? ⟨g, o + i * 13 + 7, none⟩ = some (.int .u64 os[i].nd.stamp) ∧
    w.cell? ⟨g, o + i * 13 + 8, none⟩ = some (.int .i64 os[i].nd.shadow) ∧ w.cell? ⟨g, o + i * 13 + 9, none⟩ = some (.string os[i].nd.tgt) ∧ w.cell? ⟨g, o + i * 13 + 10, none⟩ = some (.int .i64 os[i].pb) ∧ w.cell? ⟨g, o + i * 13 + 11, none⟩ = some (.int .i64 os[i].pp) ∧
    w.cell? ⟨g, o + i * 13 + 12, none⟩ = some (.slice (al i).1 os[i].cs.length (al i).2) ∧ CRow w (al i).1 os[i].cs ∧ os[i].cs.length ≤ (al i).2 := by
  obtain ⟨h, h2⟩ := h
  obtain ⟨h3, h4⟩ := h2 i os[i] (by simp [hi])
  rcases h with h | ⟨g, o, hA, _, h⟩
  · subst h; simp at hi
  · have hc : os[i]? = some os[i] := by simp [hi]
    exact ⟨g, o, hA, h i _ hc 0 _ (by omega) rfl, h i _ hc 1 _ (by omega) rfl, h i _ hc 2 _ (by omega) rfl, h i _ hc 3 _ (by omega) rfl, h i _ hc 4 _ (by omega) rfl, h i _ hc 5 _ (by omega) rfl, h i _ hc 6 _ (by omega) rfl, h i _ hc 7 _ (by omega) rfl, h i _ hc 8 _ (by omega) rfl, h i _ hc 9 _ (by omega) rfl, h i _ hc 10 _ (by omega) rfl, h i _ hc 11 _ (by omega) rfl, h i _ hc 12 _ (by omega) rfl, h3, h4⟩

/-! ### What may be packed -/
def placeB (b p : Int) : Bool := decide (0 ≤ b ∧ b < 4096 ∧ 0 ≤ p ∧ p < 256)
def blockB (b : Blk) : Bool := decide (0 ≤ b.st ∧ b.st ≤ 6 ∧ b.hd ≤ 281474976710655 ∧ 0 ≤ b.live ∧ b.live ≤ 256)
def chunksB : Int → List Chk → Bool
  | _, [] => true
  | last, x :: r => decide (last < x.c ∧ x.c ≤ 1048575) && placeB x.b x.p && decide (0 ≤ x.n ∧ x.n ≤ 2048) && chunksB x.c r
def noneOf (l : List UInt8) : Bool := l.all fun c => c != 0 && c != 47
def noZero (l : List UInt8) : Bool := l.all fun c => c != 0
def nameL (s : ByteArray) : Int := if 1 ≤ s.size ∧ s.size ≤ 63 ∧ s.data.toList ≠ [46] ∧ s.data.toList ≠ [46, 46] ∧ noneOf s.data.toList = true then 0 else 81
def targetB (ty : Int) (s : ByteArray) : Bool := if ty = 3 then decide (1 ≤ s.size ∧ s.size ≤ 127) && noZero s.data.toList else decide (s.data.toList = [])
def checkL (n : Nod) : Int :=
  if ¬ (1 ≤ n.ty ∧ n.ty ≤ 3 ∧ 0 ≤ n.par ∧ n.par ≤ 1048575) then 80
  else if nameL n.name ≠ 0 then 81
  else if ¬ (0 ≤ n.size ∧ n.size ≤ 2147483648 ∧ (n.ty = 1 ∨ n.size = 0) ∧ 0 ≤ n.mode ∧ n.mode ≤ 4095 ∧ 0 ≤ n.shadow ∧ n.shadow ≠ 1 ∧ n.shadow ≤ 1048575) then 80
  else if targetB n.ty n.tgt = false then 82 else 0
def Nod.zero : Nod := ⟨0, 0, ⟨#[]⟩, 0, 0, 0, 0, ⟨#[]⟩⟩
def objB (o : Obj') : Bool := decide (2 ≤ o.id ∧ o.id ≤ 1048575 ∧ o.cs.length ≤ 65536) && chunksB (-1) o.cs &&
  (if o.head then decide (checkL o.nd = 0 ∧ o.nd.shadow = 0) && placeB o.pb o.pp else decide (o.nd = Nod.zero ∧ o.pb = 0 ∧ o.pp = 0))
def objsB : Int → List Obj' → Bool
  | _, [] => true
  | last, x :: r => decide (last < x.id) && objB x && objsB x.id r
def mayB (s : St) : Bool := decide (s.floor ≤ 281474976710655 ∧ s.next ≤ 281474976710656 ∧ (s.bs.length : Int) ≤ 4096 ∧ -1 ≤ s.cur ∧ s.cur < s.bs.length ∧ -1 ≤ s.last ∧ s.last < s.bs.length ∧ (s.os.length : Int) ≤ 1048575) && s.bs.all blockB && objsB 0 s.os

/-! ### The bytes -/
def le (x : Int) : Nat → List Int
  | 0 => []
  | n + 1 => x % 256 :: le (x / 256) n
theorem le_length (x : Int) (n : Nat) : (le x n).length = n := by
  induction n generalizing x with
  | zero => rfl
  | succ n ih => simp [le, ih]
theorem le_mem (x : Int) (n : Nat) : ∀ b ∈ le x n, 0 ≤ b ∧ b ≤ 255 := by
  induction n generalizing x with
  | zero => simp [le]
  | succ n ih =>
    intro b hb
    simp only [le, List.mem_cons] at hb
    rcases hb with rfl | hb
    · omega
    · exact ih _ b hb
def bytesI (s : ByteArray) : List Int := s.data.toList.map fun c => (c.toNat : Int)
def nodeL (n : Nod) : List Int := le n.ty 1 ++ le n.par 4 ++ le n.size 4 ++ le n.mode 2 ++ le n.stamp 8 ++ le n.shadow 4 ++ le n.name.size 1 ++ bytesI n.name ++ le n.tgt.size 1 ++ bytesI n.tgt
def placeL (b p : Int) : List Int := le b 2 ++ le p 2
def yesI (b : Bool) : Int := if b then 1 else 0
def chunkL (x : Chk) : List Int := le x.c 4 ++ placeL x.b x.p ++ le x.n 2
def objL (o : Obj') : List Int := le o.id 4 ++ le (yesI o.head) 1 ++ (if o.head then le ((nodeL o.nd).length : Int) 1 ++ nodeL o.nd ++ placeL o.pb o.pp else []) ++ le (o.cs.length : Int) 4 ++ (o.cs.map chunkL).flatten
def blockL (b : Blk) : List Int := le b.st 1 ++ le b.hd 6 ++ le (yesI b.real) 1 ++ le b.live 2
def headL (s : St) : List Int := le s.floor 8 ++ le s.next 8 ++ le (s.cur + 1) 4 ++ le (s.last + 1) 4 ++ le (s.bs.length : Int) 4
def packL (s : St) : List Int := headL s ++ (s.bs.map blockL).flatten ++ le (s.os.length : Int) 4 ++ (s.os.map objL).flatten
end Go.Proofs.YtefkklgelmbaiaaDoor
/- The printed functions of the point seat (shaleref08: Name, target, Check, put, Pack; shaleref14: put, at, yes; point: goodPlace, goodChunks, goodBlock; node.text; words.Join): what they answer, in plain Lean, and their contracts. No conditions beyond the kinds. -/
set_option linter.unusedSimpArgs false
set_option linter.unusedVariables false
namespace Go.Proofs.YtefkklgelmbaiaaDoor
open Go.RowKit Go.Proofs Go.Proofs.YtefkklgelmbaiaaDoorW.PrintWords Go.Proofs.YtefkklgelmbaiaaDoorW.PrintMore PPack Pat PgoodChunks PgoodBlock PJoin Ptext

abbrev bs (l : List UInt8) : ByteArray := ⟨l.toArray⟩
theorem bt_mid (a r : List UInt8) (c : UInt8) : bt (bs (a ++ c :: r)) (a.length : Int) = (c.toNat : Int) := by
  have h : ((a.length : Int)).toNat < (bs (a ++ c :: r)).size := by simp [ByteArray.size]
  unfold bt
  rw [dif_pos h]
  have : (bs (a ++ c :: r))[((a.length : Int)).toNat]'h = c := by
    show (a ++ c :: r).toArray[((a.length : Int)).toNat] = c
    simp
  rw [this]
theorem u8_iff (c d : UInt8) (k : Int) (h : (d.toNat : Int) = k) : ((c.toNat : Int) = k ↔ c = d) := by
  constructor
  · intro e
    apply UInt8.toNat_inj.1
    omega
  · rintro rfl
    exact h
theorem size_bs (l : List UInt8) : ((bs l).size : Int) = (l.length : Int) := by simp [ByteArray.size]
theorem bs_data (s : ByteArray) : bs s.data.toList = s := by simp
theorem w64 {i : Int} {n : Nat} (h0 : 0 ≤ i) (h : i ≤ (n : Int)) (hn : n ≤ 1099511627776) : wrap64 (i + 1) = i + 1 := by
  unfold wrap64; omega

theorem name_from : ∀ (r a : List UInt8) (k : Nat), r.length < k → (a ++ r).length ≤ 1099511627776 → shaleref08_Name.l0 k (bs (a ++ r)) (a.length : Int) = some (if noneOf r = true then 0 else 81)
  | [], a, k, hk, hn => by
    obtain ⟨k, rfl⟩ : ∃ m, k = m + 1 := ⟨k - 1, by simp at hk; omega⟩
    simp only [shaleref08_Name.l0]
    rw [size_bs, if_neg (by simp)]
    simp [noneOf]
  | c :: r, a, k, hk, hn => by
    obtain ⟨k, rfl⟩ : ∃ m, k = m + 1 := ⟨k - 1, by simp at hk; omega⟩
    simp only [List.length_cons, List.length_append] at hk hn
    have hw : wrap64 ((a.length : Int) + 1) = (a.length : Int) + 1 := w64 (n := a.length) (by omega) (by omega) (by omega)
    simp only [shaleref08_Name.l0]
    rw [size_bs, if_pos (by simp; omega), if_pos (by omega), bt_mid, hw]
    have h0 := u8_iff c 0 0 rfl
    have h47 := u8_iff c 47 47 rfl
    by_cases e0 : c = 0
    · rw [if_pos (h0.2 e0)]; subst e0; simp [noneOf]
    · rw [if_neg (fun h => e0 (h0.1 h))]
      by_cases e47 : c = 47
      · rw [if_pos (h47.2 e47)]; subst e47; simp [noneOf]
      · rw [if_neg (fun h => e47 (h47.1 h))]
        have ih := name_from r (a ++ [c]) k (by omega) (by simp; omega)
        rw [List.append_assoc, List.singleton_append, List.length_append, List.length_singleton] at ih
        rw [show ((a.length + 1 : Nat) : Int) = (a.length : Int) + 1 by omega] at ih
        rw [ih]
        simp [noneOf, e0, e47]
theorem name_f (s : ByteArray) (hn : s.size ≤ 1099511627776) (k : Nat) (hk : s.size + 2 ≤ k) : shaleref08_Name.f k s = some (nameL s) := by
  obtain ⟨k, rfl⟩ : ∃ m, k = m + 1 := ⟨k - 1, by omega⟩
  have hl := name_from s.data.toList [] k (by rw [Array.length_toList]; show s.size < k; omega) (by simpa using hn)
  rw [List.nil_append, bs_data, List.length_nil, show ((0 : Nat) : Int) = 0 from rfl] at hl
  have htl : s.toList = s.data.toList := Lib.toList_data s
  have j0 : ∀ b : Bool, shaleref08_Name.j0 (k + 1) s b = some (if b = true then 81 else if noneOf s.data.toList = true then 0 else 81) := fun b => by
    simp only [shaleref08_Name.j0, hl]; cases b <;> rfl
  unfold shaleref08_Name.f
  rw [j0 true, j0 (s.toList == [46, 46]), htl, if_pos (rfl : true = true)]
  have hno : ∀ h : ¬ (1 ≤ s.size ∧ s.size ≤ 63 ∧ s.data.toList ≠ [46] ∧ s.data.toList ≠ [46, 46] ∧ noneOf s.data.toList = true), nameL s = 81 := fun h => if_neg h
  by_cases h1 : (s.size : Int) < 1
  · rw [if_pos h1, hno (by omega)]
  rw [if_neg h1]
  by_cases h2 : (s.size : Int) > 63
  · rw [if_pos h2, hno (by omega)]
  rw [if_neg h2]
  by_cases h3 : s.data.toList = [46]
  · rw [if_pos h3, hno (fun h => h.2.2.1 h3)]
  rw [if_neg h3]
  by_cases h4 : s.data.toList = [46, 46]
  · rw [if_pos (by rw [h4]; rfl), hno (fun h => h.2.2.2.1 h4)]
  rw [if_neg (by simpa using h4)]
  by_cases h5 : noneOf s.data.toList = true
  · rw [if_pos h5]; unfold nameL; rw [if_pos ⟨by omega, by omega, h3, h4, h5⟩]
  · rw [if_neg h5, hno (fun h => h5 h.2.2.2.2)]

theorem target_from : ∀ (r a : List UInt8) (k : Nat), r.length < k → (a ++ r).length ≤ 1099511627776 → shaleref08_target.l0 k (bs (a ++ r)) (a.length : Int) = some (noZero r)
  | [], a, k, hk, hn => by
    obtain ⟨k, rfl⟩ : ∃ m, k = m + 1 := ⟨k - 1, by simp at hk; omega⟩
    simp only [shaleref08_target.l0]
    rw [size_bs, if_neg (by simp)]
    simp [noZero]
  | c :: r, a, k, hk, hn => by
    obtain ⟨k, rfl⟩ : ∃ m, k = m + 1 := ⟨k - 1, by simp at hk; omega⟩
    simp only [List.length_cons, List.length_append] at hk hn
    have hw : wrap64 ((a.length : Int) + 1) = (a.length : Int) + 1 := w64 (n := a.length) (by omega) (by omega) (by omega)
    simp only [shaleref08_target.l0]
    rw [size_bs, if_pos (by simp; omega), if_pos (by omega), bt_mid, hw]
    have h0 := u8_iff c 0 0 rfl
    by_cases e0 : c = 0
    · rw [if_pos (h0.2 e0)]; subst e0; simp [noZero]
    · rw [if_neg (fun h => e0 (h0.1 h))]
      have ih := target_from r (a ++ [c]) k (by omega) (by simp; omega)
      rw [List.append_assoc, List.singleton_append, List.length_append, List.length_singleton] at ih
      rw [show ((a.length + 1 : Nat) : Int) = (a.length : Int) + 1 by omega] at ih
      rw [ih]
      simp [noZero, e0]
theorem target_f (ty : Int) (s : ByteArray) (hn : s.size ≤ 1099511627776) (k : Nat) (hk : s.size + 2 ≤ k) : shaleref08_target.f k ty s = some (targetB ty s) := by
  obtain ⟨k, rfl⟩ : ∃ m, k = m + 1 := ⟨k - 1, by omega⟩
  have hl := target_from s.data.toList [] k (by rw [Array.length_toList]; show s.size < k; omega) (by simpa using hn)
  rw [List.nil_append, bs_data, List.length_nil, show ((0 : Nat) : Int) = 0 from rfl] at hl
  have htl : s.toList = s.data.toList := Lib.toList_data s
  have j0 : ∀ b : Bool, shaleref08_target.j0 (k + 1) s b = some (!b && noZero s.data.toList) := fun b => by
    simp only [shaleref08_target.j0, hl]; cases b <;> rfl
  unfold shaleref08_target.f targetB
  rw [j0 true, j0 (decide _), htl]
  by_cases h0 : ty = 3
  · rw [if_pos h0, if_pos h0]
    by_cases h1 : (s.size : Int) < 1
    · rw [if_pos h1, decide_eq_false (p := 1 ≤ s.size ∧ s.size ≤ 127) (by omega)]; rfl
    rw [if_neg h1]
    by_cases h2 : (s.size : Int) > 127
    · rw [decide_eq_true h2, decide_eq_false (p := 1 ≤ s.size ∧ s.size ≤ 127) (by omega)]; rfl
    · rw [decide_eq_false h2, decide_eq_true (p := 1 ≤ s.size ∧ s.size ≤ 127) (by omega)]; rfl
  · rw [if_neg h0, if_neg h0]
    congr 1
    rw [Bool.eq_iff_iff]; simp

set_option maxHeartbeats 3200000 in
theorem check_f (n : Nod) (h : n.wf) (k : Nat) (hk : n.name.size + n.tgt.size + 6 ≤ k) : shaleref08_Check.f k n.ty n.par n.name n.size n.mode n.stamp n.shadow n.tgt = some (checkL n) := by
  obtain ⟨k, rfl⟩ : ∃ m, k = m + 2 := ⟨k - 2, by omega⟩
  obtain ⟨_, _, _, _, _, _, hn1, hn2⟩ := h
  have hN : shaleref08_Name.f (k + 1) n.name = some (nameL n.name) := name_f _ hn1 _ (by omega)
  have hT : shaleref08_target.f k n.ty n.tgt = some (targetB n.ty n.tgt) := target_f _ _ hn2 _ (by omega)
  have j1 : ∀ b : Bool, shaleref08_Check.j1 (k + 1) b n.ty n.par n.name n.size n.mode n.stamp n.shadow n.tgt = some (if b = true then 80 else if targetB n.ty n.tgt = false then 82 else 0) := fun b => by
    simp only [shaleref08_Check.j1, hT, Option.bind_some]
    cases b <;> cases targetB n.ty n.tgt <;> rfl
  have j0 : ∀ b : Bool, shaleref08_Check.j0 (k + 2) b n.ty n.par n.name n.size n.mode n.stamp n.shadow n.tgt = some (if b = true then 80 else if nameL n.name ≠ 0 then 81 else
      if ¬ (0 ≤ n.size ∧ n.size ≤ 2147483648 ∧ (n.ty = 1 ∨ n.size = 0) ∧ 0 ≤ n.mode ∧ n.mode ≤ 4095 ∧ 0 ≤ n.shadow ∧ n.shadow ≠ 1 ∧ n.shadow ≤ 1048575) then 80 else if targetB n.ty n.tgt = false then 82 else 0) := fun b => by
    simp only [shaleref08_Check.j0, hN, Option.bind_some, j1]
    cases b
    · by_cases e : nameL n.name = 0
      · simp only [Bool.false_eq_true, if_false, e, if_true, ne_eq, not_true_eq_false]
        repeat' split
        all_goals (try simp only [decide_eq_true_eq] at *)
        all_goals first | rfl | (exfalso; omega)
      · simp only [Bool.false_eq_true, if_false, e, ne_eq, not_false_eq_true, if_true]
    · rfl
  unfold shaleref08_Check.f checkL
  simp only [j0, if_true, decide_eq_true_eq]
  repeat' split
  all_goals (try simp only [decide_eq_true_eq] at *)
  all_goals first | rfl | (exfalso; omega)

theorem u64_in {x : Int} (h : U64 x) : IntKind.u64.wrap x = x := IntWalk.u64_in x h
theorem put14_from (n : Nat) (hn : n ≤ 8) : ∀ (d i : Nat) (x : Int) (acc : List Int) (k : Nat), d + i = n → d < k → U64 x → acc.length = i → shaleref14_put.l0 k x n acc i = some (acc ++ le x d)
  | 0, i, x, acc, k, hd, hk, hx, ha => by
    obtain ⟨k, rfl⟩ : ∃ m, k = m + 1 := ⟨k - 1, by omega⟩
    simp only [shaleref14_put.l0]
    rw [if_neg (by omega)]
    simp [le]
  | d + 1, i, x, acc, k, hd, hk, hx, ha => by
    obtain ⟨k, rfl⟩ : ∃ m, k = m + 1 := ⟨k - 1, by omega⟩
    obtain ⟨h0, h1⟩ := hx
    simp only [shaleref14_put.l0]
    rw [if_pos (by omega), if_pos (by omega), IntWalk.u64_quo x 256 ⟨h0, h1, by omega⟩, w64 (n := 8) (by omega) (by omega) (by omega)]
    have ih := put14_from n hn d (i + 1) (x / 256) (acc ++ [x % 256]) k (by omega) (by omega) ⟨by omega, by omega⟩ (by simp [ha])
    rw [show ((i + 1 : Nat) : Int) = (i : Int) + 1 by omega] at ih
    rw [ih]
    simp [le]
theorem put14_f (x : Int) (n : Nat) (hn : n ≤ 8) (hx : U64 x) (k : Nat) (hk : n < k) : shaleref14_put.f k x n = some (le x n) := by
  have := put14_from n hn n 0 x [] k (by omega) hk hx rfl
  unfold shaleref14_put.f
  simpa using this
theorem le_pow (x : Int) (hx : 0 ≤ x) : ∀ (d i : Nat), le (x / 2 ^ (8 * i)) (d + 1) = (x / 2 ^ (8 * i)) % 256 :: le (x / 2 ^ (8 * (i + 1))) d := fun d i => by
  have e : (x / 2 ^ (8 * i)) / 256 = x / 2 ^ (8 * (i + 1)) := by
    rw [Int.ediv_ediv_of_nonneg (by exact Int.pow_nonneg (by decide)), show 8 * (i + 1) = 8 * i + 8 by omega, Int.pow_add]; rfl
  simp only [le, e]
theorem two64 : (2 : Int) ^ 64 = 18446744073709551616 := by decide
theorem wraps_u64 (n : Int) (h0 : 0 ≤ n) (h1 : n < 2 ^ 64) : IntKind.u64.wrap n = n := by
  rw [two64] at h1
  exact IntWalk.u64_in n ⟨h0, by omega⟩
theorem and255 (x : Int) (h0 : 0 ≤ x) (h1 : x ≤ 18446744073709551615) : Go.bits .and .u64 x 255 = x % 256 := by
  have := bits_mask .u64 64 (by decide) wraps_u64 8 (by decide) x h0 (by rw [two64]; omega)
  have e : (2 : Int) ^ 8 - 1 = 255 := by decide
  have e2 : (2 : Int) ^ 8 = 256 := by decide
  rwa [e, e2] at this
theorem put08_from (n : Nat) (hn : n ≤ 8) (x : Int) (hx : U64 x) : ∀ (d i : Nat) (acc : List Int) (k : Nat), d + i = n → d < k → acc.length + d ≤ 1099511627776 → shaleref08_put.l0 k acc x n i = some (acc ++ le (x / 2 ^ (8 * i)) d)
  | 0, i, acc, k, hd, hk, ha => by
    obtain ⟨k, rfl⟩ : ∃ m, k = m + 1 := ⟨k - 1, by omega⟩
    simp only [shaleref08_put.l0]
    rw [if_neg (by omega)]
    simp [le]
  | d + 1, i, acc, k, hd, hk, ha => by
    obtain ⟨k, rfl⟩ : ∃ m, k = m + 1 := ⟨k - 1, by omega⟩
    obtain ⟨h0, h1⟩ := hx
    have e8 : IntKind.u64.wrap (wrap64 (8 * (i : Int))) = ((8 * i : Nat) : Int) := by
      have : wrap64 (8 * (i : Int)) = 8 * (i : Int) := by unfold wrap64; omega
      rw [this, IntWalk.u64_in _ ⟨by omega, by omega⟩]; omega
    have hq : 0 ≤ x / 2 ^ (8 * i) ∧ x / 2 ^ (8 * i) ≤ 18446744073709551615 := by
      have h2 : (0 : Int) < 2 ^ (8 * i) := Int.pow_pos (by decide)
      exact ⟨Int.ediv_nonneg h0 (Int.le_of_lt h2), Int.le_trans (Int.ediv_le_self _ h0) h1⟩
    have es : shr .u64 x ((8 * i : Nat) : Int) = x / 2 ^ (8 * i) := by
      unfold shr
      rw [Int.toNat_natCast, Nat.min_eq_left (by show 8 * i ≤ 64; omega)]
    simp only [shaleref08_put.l0]
    rw [if_pos (by omega), e8, if_pos (by omega), if_pos (by omega), es, and255 _ hq.1 hq.2, w64 (n := 8) (by omega) (by omega) (by omega), show ((x / 2 ^ (8 * i)) % 256) % 256 = (x / 2 ^ (8 * i)) % 256 by omega]
    have ih := put08_from n hn x ⟨h0, h1⟩ d (i + 1) (acc ++ [(x / 2 ^ (8 * i)) % 256]) k (by omega) (by omega) (by simp; omega)
    rw [show ((i + 1 : Nat) : Int) = (i : Int) + 1 by omega] at ih
    rw [ih, le_pow x h0]
    simp
theorem put08_f (acc : List Int) (x : Int) (n : Nat) (hn : n ≤ 8) (hx : U64 x) (ha : acc.length ≤ 1099511627000) (k : Nat) (hk : n < k) : shaleref08_put.f k acc x n = some (acc ++ le x n) := by
  have := put08_from n hn x hx n 0 acc k (by omega) hk (by omega)
  unfold shaleref08_put.f
  simpa using this

theorem bytesOf_I (s : ByteArray) : bytesOf s = bytesI s := rfl
theorem bytesI_length (s : ByteArray) : (bytesI s).length = s.size := by simp [bytesI]
theorem checkL_err (n : Nod) : checkL n = 0 ∨ checkL n = 80 ∨ checkL n = 81 ∨ checkL n = 82 := by
  unfold checkL
  repeat' split
  all_goals simp
theorem nodeL_length (n : Nod) : (nodeL n).length = 25 + n.name.size + n.tgt.size := by
  unfold nodeL
  simp only [List.length_append, le_length, bytesI_length]
  omega
/-- a header's bytes, or none -/
def packN (n : Nod) : List Int := if checkL n = 0 then nodeL n else []
theorem pack08_f (n : Nod) (h : n.wf) (k : Nat) (hk : n.name.size + n.tgt.size + 16 ≤ k) : shaleref08_Pack.f k n.ty n.par n.name n.size n.mode n.stamp n.shadow n.tgt = some (packN n, checkL n) := by
  have hc := check_f n h k (by omega)
  obtain ⟨h1, h2, h3, h4, h5, h6, h7, h8⟩ := h
  unfold shaleref08_Pack.f packN
  rw [hc]
  simp only [Option.bind_some]
  by_cases e : checkL n = 0
  · rw [if_pos e, if_pos e]
    have hr : 1 ≤ n.ty ∧ n.ty ≤ 3 ∧ 0 ≤ n.par ∧ n.par ≤ 1048575 ∧ 0 ≤ n.size ∧ n.size ≤ 2147483648 ∧ 0 ≤ n.mode ∧ n.mode ≤ 4095 ∧ 0 ≤ n.shadow ∧ n.shadow ≤ 1048575 := by
      unfold checkL at e
      repeat' split at e
      all_goals first | (exfalso; omega) | omega
    obtain ⟨r1, r2, r3, r4, r5, r6, r7, r8, r9, r10⟩ := hr
    have P : ∀ (acc : List Int) (x : Int) (m : Nat), m ≤ 8 → U64 x → acc.length ≤ 1099511627000 → shaleref08_put.f k acc x m = some (acc ++ le x m) := fun acc x m hm hx ha => put08_f acc x m hm hx ha k (by omega)
    have i1 : ((1 : Nat) : Int) = 1 := rfl
    have i2 : ((2 : Nat) : Int) = 2 := rfl
    have i4 : ((4 : Nat) : Int) = 4 := rfl
    have i8 : ((8 : Nat) : Int) = 8 := rfl
    have P1 := fun acc x => P acc x 1 (by omega)
    have P2 := fun acc x => P acc x 2 (by omega)
    have P4 := fun acc x => P acc x 4 (by omega)
    have P8 := fun acc x => P acc x 8 (by omega)
    rw [i1] at P1
    rw [i2] at P2
    rw [i4] at P4
    rw [i8] at P8
    have hs : ∀ x : Int, 0 ≤ x → x ≤ 18446744073709551615 → U64 x := fun x a b => ⟨a, b⟩
    rw [u64_in (hs n.ty (by omega) (by omega)), u64_in (hs n.par (by omega) (by omega)), u64_in (hs n.size (by omega) (by omega)), u64_in (hs n.mode (by omega) (by omega)), u64_in (hs n.shadow (by omega) (by omega)), u64_in (hs (n.name.size : Int) (by omega) (by omega)), u64_in (hs (n.tgt.size : Int) (by omega) (by omega))]
    rw [P1 _ _ (hs _ (by omega) (by omega)) (by simp)]
    simp only [Option.bind_some]
    rw [P4 _ _ (hs _ (by omega) (by omega)) (by simp [le_length])]
    simp only [Option.bind_some]
    rw [P4 _ _ (hs _ (by omega) (by omega)) (by simp [le_length])]
    simp only [Option.bind_some]
    rw [P2 _ _ (hs _ (by omega) (by omega)) (by simp [le_length])]
    simp only [Option.bind_some]
    rw [P8 _ _ h5 (by simp [le_length])]
    simp only [Option.bind_some]
    rw [P4 _ _ (hs _ (by omega) (by omega)) (by simp [le_length])]
    simp only [Option.bind_some]
    rw [P1 _ _ (hs _ (by omega) (by omega)) (by simp [le_length])]
    simp only [Option.bind_some]
    have hnm : n.name.size ≤ 63 := by
      unfold checkL at e
      have : nameL n.name = 0 := by
        repeat' split at e
        all_goals first | (exfalso; omega) | (simp at *; assumption)
      unfold nameL at this
      split at this
      · rename_i hh; omega
      · omega
    have htg : n.tgt.size ≤ 127 := by
      unfold checkL at e
      have : targetB n.ty n.tgt = true := by
        repeat' split at e
        all_goals first | (exfalso; omega) | (simp at *; assumption)
      unfold targetB at this
      split at this
      · simp at this; omega
      · simp at this
        have : n.tgt.size = 0 := by show n.tgt.data.size = 0; rw [this]; rfl
        omega
    rw [if_pos (by simp [le_length]; omega)]
    rw [P1 _ _ (hs _ (by omega) (by omega)) (by simp only [bytesOf_I, List.length_append, le_length, bytesI_length, List.length_nil]; omega)]
    simp only [Option.bind_some]
    rw [if_pos (by simp only [bytesOf_I, List.length_append, le_length, bytesI_length, List.length_nil]; omega)]
    rw [e]
    unfold nodeL
    simp only [bytesOf_I, List.nil_append]
  · rw [if_neg e, if_neg e]
end Go.Proofs.YtefkklgelmbaiaaDoor
set_option linter.unusedSimpArgs false
set_option linter.unusedVariables false
namespace Go.Proofs.YtefkklgelmbaiaaDoor
open Go.RowKit Go.Proofs Go.Proofs.YtefkklgelmbaiaaDoorW.PrintWords Go.Proofs.YtefkklgelmbaiaaDoorW.PrintMore

/-- a row of bytes of the call's own -/
def OwnB (w : World) (B : Nat) (v : Value) (xs : List Int) : Prop := w.ownsRow B 5 1 v xs.length (xs.map (Value.int .u8))
theorem OwnB.fr {w w' : World} {B : Nat} {v : Value} {xs : List Int} (h : OwnB w B v xs) (q : Fr w w') : OwnB w' B v xs := by
  refine World.ownsRow.kept (row := none) h ⟨q.below.os, q.below.tape, q.below.output, q.below.size, fun k hk _ => q.below.block k hk⟩ (by cases v.ownBlock <;> simp)
theorem OwnB.low {w : World} {B B' : Nat} {v : Value} {xs : List Int} (h : OwnB w B v xs) (hb : B' ≤ B) : OwnB w B' v xs := by
  obtain ⟨h1, h2⟩ := h
  refine ⟨h1, ?_⟩
  rcases h2 with h2 | ⟨g, cap, cur, hv, hg, r⟩
  · exact .inl h2
  · exact .inr ⟨g, cap, cur, hv, by omega, r⟩
theorem OwnB.ofR {w : World} {B : Nat} {ok : Nat → Prop} {v : Value} {xs : List Int} (h : Kd.R (Kd.int .u8) 5 w B ok v xs) : OwnB w B v xs := Kd.own_of_R h
theorem OwnB.nil (w : World) (B : Nat) : OwnB w B (.slice none 0 0) [] := ⟨by simp, .inl ⟨rfl, rfl⟩⟩
theorem OwnB.form {w : World} {B : Nat} {v : Value} {xs : List Int} (h : OwnB w B v xs) : ∃ a c, v = .slice a xs.length c := by
  rcases h.2 with ⟨hv, h0⟩ | ⟨g, cap, cur, hv, _⟩
  · rw [h0]; exact ⟨none, 0, hv⟩
  · exact ⟨_, cap, hv⟩

theorem fr_drawn {w w' : World} (hw : Ok w) (h : Drawn0 w w') : Fr w w' := Fr.of hw h.below
theorem put14_any (x : Int) (n : Nat) (hn : n ≤ 8) (hx : U64 x) (w : World) (hw : Ok w) :
    Calls Tryd.prog 15 #[.int .u64 x, .int .i64 n] w fun e w' => Fr w w' ∧ ∃ v, e = .returned v ∧ OwnB w' w.heap.size v (le x n) :=
  (Pat.shaleref14_put.calls (n + 1) x n _ w (put14_f x n hn hx (n + 1) (by omega))).mono fun _ _ ⟨v, he, hR, hb⟩ => ⟨Fr.of hw hb, v, he, .ofR hR⟩
theorem at14_f (b p : Int) (hb : U64 b) (hp : U64 p) : Pat.shaleref14_at.f 3 b p = some (placeL b p) := by
  unfold Pat.shaleref14_at.f placeL
  have h2 : ∀ x : Int, U64 x → Pat.shaleref14_put.f 3 (IntKind.u64.wrap x) 2 = some (le x 2) := fun x hx => by rw [u64_in hx]; exact put14_f x 2 (by omega) hx 3 (by omega)
  rw [h2 b hb, h2 p hp]
  simp only [Option.bind_some]
  rw [if_pos (by simp [le_length])]
theorem at14_any (b p : Int) (hb : U64 b) (hp : U64 p) (w : World) (hw : Ok w) :
    Calls Tryd.prog 18 #[.agg #[.int .i64 b, .int .i64 p]] w fun e w' => Fr w w' ∧ ∃ v, e = .returned v ∧ OwnB w' w.heap.size v (placeL b p) :=
  (Pat.shaleref14_at.calls 3 b p _ w (at14_f b p hb hp)).mono fun _ _ ⟨v, he, hR, hb⟩ => ⟨Fr.of hw hb, v, he, .ofR hR⟩
theorem check08_any (n : Nod) (h : n.wf) (w : World) (hw : Ok w) :
    Calls Tryd.prog 32 #[.agg #[.int .i64 n.ty, .int .i64 n.par, .string n.name, .int .i64 n.size, .int .i64 n.mode, .int .u64 n.stamp, .int .i64 n.shadow, .string n.tgt]] w fun e w' => e = .returned (.int .i64 (checkL n)) ∧ Fr w w' :=
  (PPack.shaleref08_Check.calls _ _ _ _ _ _ _ _ _ _ w (check_f n h _ (Nat.le_refl _))).mono fun _ _ ⟨he, hb⟩ => ⟨he, Fr.of hw hb⟩
theorem pack08_any (n : Nod) (h : n.wf) (w : World) (hw : Ok w) :
    Calls Tryd.prog 17 #[.agg #[.int .i64 n.ty, .int .i64 n.par, .string n.name, .int .i64 n.size, .int .i64 n.mode, .int .u64 n.stamp, .int .i64 n.shadow, .string n.tgt]] w fun e w' => Fr w w' ∧ ∃ v, e = .returned (.tuple #[v, .int .i64 (checkL n)]) ∧ OwnB w' w.heap.size v (packN n) :=
  (PPack.shaleref08_Pack.calls _ _ _ _ _ _ _ _ _ _ _ w (pack08_f n h _ (Nat.le_refl _))).mono fun _ _ ⟨v, he, hR, hb⟩ => ⟨Fr.of hw hb, v, he, .ofR hR⟩

theorem goodPlace_f (b p : Int) : PgoodChunks.point_goodPlace.f b p = some (placeB b p) := by
  unfold PgoodChunks.point_goodPlace.f placeB
  repeat' split
  all_goals (congr 1; rw [Bool.eq_iff_iff]; simp; try omega)
theorem goodPlace_any (b p : Int) (w : World) (hw : Ok w) : Calls Tryd.prog 51 #[.agg #[.int .i64 b, .int .i64 p]] w fun e w' => e = .returned (.bool (placeB b p)) ∧ Fr w w' :=
  (PgoodChunks.point_goodPlace.calls b p _ w (goodPlace_f b p)).mono fun _ _ ⟨he, hb⟩ => ⟨he, Fr.of hw hb⟩
theorem goodBlock_f (b : Blk) : PgoodBlock.point_goodBlock.f b.st b.hd b.real b.live = some (blockB b) := by
  unfold PgoodBlock.point_goodBlock.f blockB
  repeat' split
  all_goals (congr 1; rw [Bool.eq_iff_iff]; simp; try omega)
theorem goodBlock_any (b : Blk) (w : World) (hw : Ok w) : Calls Tryd.prog 34 #[.agg #[.int .i64 b.st, .int .u64 b.hd, .bool b.real, .int .i64 b.live]] w fun e w' => e = .returned (.bool (blockB b)) ∧ Fr w w' :=
  (PgoodBlock.point_goodBlock.calls _ _ _ _ _ w (goodBlock_f b)).mono fun _ _ ⟨he, hb⟩ => ⟨he, Fr.of hw hb⟩

def chS (c : Chk) : PgoodChunks.S59 := ⟨c.c, ⟨⟨c.b, c.p⟩, c.n⟩⟩
theorem chunks_from (all : List Chk) (hall : all.length ≤ 1099511627776) : ∀ (r a : List Chk) (last : Int) (k : Nat), all = a ++ r → r.length < k →
    PgoodChunks.point_goodChunks.l0 k (all.map chS) last (all.map chS) (all.length : Int) (a.length : Int) = some (chunksB last r && decide ((all.length : Int) ≤ 65536))
  | [], a, last, k, he, hk => by
    obtain ⟨k, rfl⟩ : ∃ m, k = m + 1 := ⟨k - 1, by simp at hk; omega⟩
    simp only [PgoodChunks.point_goodChunks.l0]
    rw [if_neg (by subst he; simp)]
    simp [chunksB]
  | x :: r, a, last, k, he, hk => by
    obtain ⟨k, rfl⟩ : ∃ m, k = m + 1 := ⟨k - 1, by simp at hk; omega⟩
    have hl : all.length = a.length + (r.length + 1) := by subst he; simp
    have hx : PgoodChunks.rd_T59 (all.map chS) (a.length : Int) = chS x := by
      unfold PgoodChunks.rd_T59
      rw [Int.toNat_natCast, List.getD_eq_getElem?_getD]
      subst he
      simp
    simp only [List.length_cons] at hk
    simp only [PgoodChunks.point_goodChunks.l0]
    rw [if_pos (by omega), if_pos (by omega), if_pos (by rw [List.length_map]; omega), hx, goodPlace_f]
    have ih := chunks_from all hall r (a ++ [x]) x.c k (by subst he; simp) (by omega)
    rw [List.length_append, List.length_singleton, show ((a.length + 1 : Nat) : Int) = (a.length : Int) + 1 by omega] at ih
    rw [w64 (n := a.length) (by omega) (by omega) (by omega)]
    have y0 : (chS x).f0 = x.c := rfl
    have y1 : (chS x).f1.f0.f0 = x.b := rfl
    have y2 : (chS x).f1.f0.f1 = x.p := rfl
    have y3 : (chS x).f1.f1 = x.n := rfl
    clear hx
    generalize chS x = y at *
    simp only [Option.bind_some]
    rw [y0] at *
    rw [y1, y2, ih]
    simp only [chunksB]
    by_cases h1 : x.c ≤ last
    · rw [if_pos h1, decide_eq_false (p := last < x.c ∧ x.c ≤ 1048575) (by omega)]; rfl
    rw [if_neg h1]
    by_cases h2 : x.c > 1048575
    · rw [if_pos h2, decide_eq_false (p := last < x.c ∧ x.c ≤ 1048575) (by omega)]; rfl
    rw [if_neg h2, decide_eq_true (p := last < x.c ∧ x.c ≤ 1048575) (by omega)]
    cases placeB x.b x.p
    · rfl
    rw [if_pos rfl]
    by_cases h3 : y.f1.f1 < 0
    · rw [if_pos h3, decide_eq_false (p := 0 ≤ x.n ∧ x.n ≤ 2048) (by omega)]; rfl
    rw [if_neg h3]
    by_cases h4 : y.f1.f1 > 2048
    · rw [if_pos h4, decide_eq_false (p := 0 ≤ x.n ∧ x.n ≤ 2048) (by omega)]; rfl
    rw [if_neg h4, decide_eq_true (p := 0 ≤ x.n ∧ x.n ≤ 2048) (by omega)]
    rfl
theorem CRow.toC {w : World} {A : Option Addr} {cs : List Chk} (h : CRow w A cs) (hn : cs.length ≤ 1099511627776) : Kd.C PgoodChunks.k59 w A (cs.map chS).length (cs.map chS) := by
  refine ⟨rfl, by rw [List.length_map]; omega, fun h0 => ?_⟩
  rw [List.length_map] at h0
  rcases h with h | ⟨g, o, hA, hg, hc⟩
  · have := congrArg List.length h; simp at this; subst this; simp at h0
  · refine ⟨_, hA, fun j p hj => ?_⟩
    simp only [List.getElem?_map, Option.map_eq_some_iff] at hj
    obtain ⟨x, hx, rfl⟩ := hj
    refine ⟨ccells x, rfl, PgoodChunks.k59_mk w (chS x), fun i u hu => ?_⟩
    have hi : i < 4 := (List.getElem?_eq_some_iff.1 hu).1
    have hsz : PgoodChunks.k59.sz = 4 := rfl
    rw [hsz, Lib.add_plain, ← Nat.add_assoc]
    exact hc j (ccells x) (by simp [hx]) i u hi hu
theorem goodChunks_any (A : Option Addr) (c : Nat) (cs : List Chk) (w : World) (hw : Ok w) (h : CRow w A cs) (hc : cs.length ≤ c) (hn : cs.length ≤ 1099511627776) :
    Calls Tryd.prog 49 #[.slice A cs.length c] w fun e w' => e = .returned (.bool (chunksB (-1) cs && decide ((cs.length : Int) ≤ 65536))) ∧ Fr w w' := by
  have hf : PgoodChunks.point_goodChunks.f (cs.length + 1) (cs.map chS) = some (chunksB (-1) cs && decide ((cs.length : Int) ≤ 65536)) := by
    have := chunks_from cs hn cs [] (-1) (cs.length + 1) rfl (by omega)
    unfold PgoodChunks.point_goodChunks.f
    rw [List.length_map]
    exact this
  have := PgoodChunks.point_goodChunks.calls _ A c (cs.map chS) _ w (h.toC hn) (by rw [List.length_map]; exact hc) hf
  rw [List.length_map] at this
  exact this.mono fun _ _ ⟨he, hb⟩ => ⟨he, Fr.of hw hb⟩
end Go.Proofs.YtefkklgelmbaiaaDoor
