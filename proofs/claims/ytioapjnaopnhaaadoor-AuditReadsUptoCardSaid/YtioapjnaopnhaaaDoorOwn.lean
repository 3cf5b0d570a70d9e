/- The law's 'own' (shalelaw19): it writes into the findings' rows of four reports, appends behind them, and looks: true, where the four rows are apart. -/
import Derived.Test.YtioapjnaopnhaaaDoorReadProg2
import Derived.Test.YtioapjnaopnhaaaDoorAuditShowsWalk
import Derived.Deep.DeepCutAuto
import Derived.ArgAppend
import Derived.Deep.DeepAppendRoom
set_option linter.unusedSimpArgs false
set_option linter.unusedVariables false
namespace Go.Proofs.YtioapjnaopnhaaaDoor
open Go.RowKit Go.Proofs

/-- a slice of findings -/
structure Sl where
  a : Option Addr
  n : Nat
  c : Nat
def Sl.v (s : Sl) : Value := .slice s.a s.n s.c
/-- the row lies at the head of a block of its own; the kinds of its first K are 1000 + i -/
def RowW (W : World) (s : Sl) (i K : Nat) : Prop := s.n = 0 ∨ ∃ g cur, s.a = some ⟨g, 0, none⟩ ∧ W.heap[g]? = some (.cells cur 29 (0, 0)) ∧ s.n * 4 ≤ cur.size ∧ ∀ k, k < K → cur[k * 4]? = some (.int .i64 (1000 + (i : Int)))
/-- nothing was appended to it yet -/
def RowS (W : World) (B : Nat) (s : Sl) : Prop := ∃ xs, W.ownsRow B 29 4 s.v s.n xs

theorem store4 {W : World} {g : Nat} {cur : Array Value} {T : TypeId} (H : W.heap[g]? = some (.cells cur T (0, 0))) (o : Nat) (ho : o + 4 ≤ cur.size) (v0 v1 v2 v3 : Value) :
    ∃ W4 cur', (((W.setCell ⟨g, o, none⟩ v0).setCell ⟨g, o + 1, none⟩ v1).setCell ⟨g, o + 2, none⟩ v2).setCell ⟨g, o + 3, none⟩ v3 = W4 ∧ W4.heap[g]? = some (.cells cur' T (0, 0)) ∧ cur'.size = cur.size ∧ cur'[o]? = some v0 ∧
      (∀ j, j < o ∨ o + 4 ≤ j → cur'[j]? = cur[j]?) ∧ (∀ B, B ≤ g → Below B W W4) ∧ ∀ k, k ≠ g → W4.heap[k]? = W.heap[k]? := by
  refine ⟨_, _, rfl, set_same (set_same (set_same (set_same H o v0) (o + 1) v1) (o + 2) v2) (o + 3) v3, by simp, ?_, ?_, ?_, ?_⟩
  · rw [Array.getElem?_setIfInBounds_ne (by omega), Array.getElem?_setIfInBounds_ne (by omega), Array.getElem?_setIfInBounds_ne (by omega), Array.getElem?_setIfInBounds_self]
    rw [if_pos (by omega)]
  · intro j hj
    rw [Array.getElem?_setIfInBounds_ne (by omega), Array.getElem?_setIfInBounds_ne (by omega), Array.getElem?_setIfInBounds_ne (by omega), Array.getElem?_setIfInBounds_ne (by omega)]
  · intro B hB
    exact (((((Below.refl B W).setCell (p := ⟨g, o, none⟩) hB v0).setCell (p := ⟨g, o + 1, none⟩) hB v1).setCell (p := ⟨g, o + 2, none⟩) hB v2).setCell (p := ⟨g, o + 3, none⟩) hB v3)
  · intro k hk
    rw [Below.heap_setCell _ _ _ k hk, Below.heap_setCell _ _ _ k hk, Below.heap_setCell _ _ _ k hk, Below.heap_setCell _ _ _ k hk]

/-- four rows, apart from each other and from the block that holds their slices -/
structure Apart (gR N : Nat) (S : Nat → Sl) : Prop where
  lt : ∀ i g, i < 4 → (S i).a = some ⟨g, 0, none⟩ → g < N
  ltR : gR < N
  ne : ∀ i j g h, i < 4 → j < 4 → i ≠ j → (S i).a = some ⟨g, 0, none⟩ → (S j).a = some ⟨h, 0, none⟩ → g ≠ h
  no : ∀ i g, i < 4 → (S i).a = some ⟨g, 0, none⟩ → g ≠ gR
theorem RowW.keep {W W' : World} {s : Sl} {i K : Nat} (h : RowW W s i K) (hk : ∀ g, s.a = some ⟨g, 0, none⟩ → W'.heap[g]? = W.heap[g]?) : RowW W' s i K := by
  rcases h with h | ⟨g, cur, ha, hh, hs, hc⟩
  · exact .inl h
  · exact .inr ⟨g, cur, ha, (hk g ha).trans hh, hs, hc⟩
theorem RowS.keep {W W' : World} {B : Nat} {s : Sl} (h : RowS W B s) (hk : ∀ g, s.a = some ⟨g, 0, none⟩ → W'.heap[g]? = W.heap[g]?) : RowS W' B s := by
  obtain ⟨xs, h1, h2⟩ := h
  refine ⟨xs, h1, ?_⟩
  rcases h2 with h2 | ⟨g, cap, cur, hv, hb, hg, r⟩
  · exact .inl h2
  · refine .inr ⟨g, cap, cur, hv, hb, (hk g ?_).trans hg, r⟩
    have : Value.slice s.a s.n s.c = .slice (some ⟨g, 0, none⟩) s.n cap := hv
    injection this
theorem RowS.form {W : World} {B : Nat} {s : Sl} (h : RowS W B s) (hn : 0 < s.n) : ∃ g cur, s.a = some ⟨g, 0, none⟩ ∧ B ≤ g ∧ W.heap[g]? = some (.cells cur 29 (0, 0)) ∧ s.n ≤ s.c ∧ s.c ≤ maxLen ∧ cur.size = s.c * 4 := by
  obtain ⟨xs, h1, h2⟩ := h
  rcases h2 with ⟨_, h2⟩ | ⟨g, cap, cur, hv, hb, hg, hn, hm, hs, _⟩
  · omega
  · have : Value.slice s.a s.n s.c = .slice (some ⟨g, 0, none⟩) s.n cap := hv
    injection this with e1 e2 e3
    subst e3
    exact ⟨g, cur, e1, hb, hg, hn, hm, hs⟩
theorem RowS.mk {W : World} {B : Nat} {s : Sl} {g : Nat} {cur : Array Value} (ha : s.a = some ⟨g, 0, none⟩) (hb : B ≤ g) (hg : W.heap[g]? = some (.cells cur 29 (0, 0))) (hn : s.n ≤ s.c) (hm : s.c ≤ maxLen) (hs : cur.size = s.c * 4) : RowS W B s :=
  ⟨cur.toList.take (s.n * 4), by rw [List.length_take, Array.length_toList]; omega, .inr ⟨g, s.c, cur, by unfold Sl.v; rw [ha], hb, hg, hn, hm, hs, rfl⟩⟩

section
variable {P : Program} {ops : Array Oper} {rest : List Oper} {o : Oper} {a : Act} {Q : Exit → Act → World → Prop}
/-- append onto a slice of the call's own: either in its row, or in a new one (the old row then stays as it is) -/
theorem wpList_append_two (w : World) (hgd : o.guard = none) (s x : Operand) (t : TypeId) (ho : o.op = .call { callee := .builtin .append, args := #[s, x], argTypes := #[t, t] })
    (base : Nat) (e : TypeId) (i : TypeInfo) (z : Value) (size bytes : Nat) (ht : P.underlying t = some (.slice e)) (hi : P.info? e = some i) (hz : i.zero = some z)
    (hsize : i.size = size) (hby : i.bytes = bytes) (hzs : z.cells.size = size) (hsz : 0 < size)
    (ao : Option Addr) (n cap : Nat) (xs : List Value) (hs : a.eval s = .slice ao n cap) (hown : w.ownsRow base e size (.slice ao n cap) n xs)
    (ad : Addr) (c : Nat) (news : List Value) (hx : a.eval x = .slice (some ad) 1 c) (hl : news.length = 1 * size) (hnews : ∀ j u, news[j]? = some u → w.cell? (ad.add j) = some u) (h1 : ∀ u ∈ news, u.oneCell' = true)
    (h63 : n + 1 ≤ maxLen) (hbytes : (n + 1) * bytes ≤ 140737488355328) (hbase : base ≤ w.heap.size)
    (h : ∀ ao' cap' w', w'.ownsRow base e size (.slice ao' (n + 1) cap') (n + 1) (xs ++ news) →
      ((Value.slice ao' (n + 1) cap').ownBlock = (Value.slice ao n cap).ownBlock ∧ w.grownBy w' (Value.slice ao n cap).ownBlock ∨ (∃ g, ao' = some ⟨g, 0, none⟩ ∧ w.heap.size ≤ g) ∧ w.grownBy w' none) → wpList P ops Q rest (a.put o.dst (.slice ao' (n + 1) cap')) w') :
    wpList P ops Q (o :: rest) a w := by
  by_cases hr : n + 1 ≤ cap
  · have hao : ∃ g, ao = some ⟨g, 0, none⟩ := by
      rcases hown.2 with ⟨hv, _⟩ | ⟨g, cap', cur, hv, _⟩
      · injection hv with _ _ h3; omega
      · injection hv with h1; exact ⟨g, h1⟩
    obtain ⟨g, rfl⟩ := hao
    exact wpList_append_own_spare w hgd s x t ho base e i size ht hi hsize g n cap xs hs hown ad 1 c news hx hl hnews h1 hr fun w' h2 h3 => h _ _ w' h2 (.inl ⟨rfl, h3⟩)
  · refine wpList_append_grows w hgd s x t ho e i z size bytes ht hi hz hsize hby hzs hsz ao n cap xs hs ?_ hown.1 ?_ ad 1 c news hx hl hnews h1 (by omega) h63 hbytes ?_
    · rintro rfl
      rcases hown.2 with ⟨hv, h0⟩ | ⟨g, cap', cur, hv, _⟩
      · injection hv with _ _ h3; exact ⟨h0, h3⟩
      · injection hv with h1; cases h1
    · rintro b rfl j u hj
      rcases hown.2 with ⟨hv, _⟩ | ⟨g, cap', cur, hv, _⟩
      · injection hv with h1; cases h1
      · injection hv with h1; injection h1 with h1; subst h1
        exact hown.cells (g := g) rfl j u hj
    · intro v' w' ho' hg'
      rcases ho'.2 with ⟨_, h0⟩ | ⟨g, cap', cur, hv, hb, r⟩
      · omega
      · subst hv
        exact h _ _ w' ⟨ho'.1, .inr ⟨g, cap', cur, rfl, by omega, r⟩⟩ (.inr ⟨⟨g, rfl, hb⟩, hg'⟩)
end

/-- 64 marks are put behind row m: after j of them -/
structure AppSt (gR B N : Nat) (S : Nat → Sl) (R : Array Value) (m : Nat) (W : World) (ao : Option Addr) (cap j : Nat) : Prop where
  H : W.heap[gR]? = some (.cells R 25 (0, 0))
  HS : ∀ i, m < i → i < 4 → RowS W B (S i)
  HW : ∀ i, i < 4 → i ≠ m → RowW W (S i) i (S i).n
  L : ∃ xs, W.ownsRow B 29 4 (.slice ao ((S m).n + j) cap) ((S m).n + j) xs ∧ ∀ k, k < (S m).n → xs[k * 4]? = some (.int .i64 (1000 + (m : Int)))
  ne : ∀ g, ao = some ⟨g, 0, none⟩ → g ≠ gR ∧ ∀ i, i < 4 → i ≠ m → (S i).a ≠ some ⟨g, 0, none⟩
  M : (RowW W (S m) m (S m).n ∧ (∀ g, ao = some ⟨g, 0, none⟩ → (S m).a ≠ some ⟨g, 0, none⟩)) ∨ (S m).a = ao
theorem AppSt.rowM {gR B N : Nat} {S : Nat → Sl} {R : Array Value} {m : Nat} {W : World} {ao : Option Addr} {cap j : Nat} (h : AppSt gR B N S R m W ao cap j) : RowW W (S m) m (S m).n := by
  rcases h.M with h1 | h1
  · exact h1.1
  · obtain ⟨xs, ho, hk⟩ := h.L
    rcases ho.2 with ⟨_, h2⟩ | ⟨g, cap', cur, hv, _, hg, hn, _, hs, ht⟩
    · exact .inl (by omega)
    · injection hv with e1 e2 e3
      subst e1 e3
      refine .inr ⟨g, cur, h1, hg, by omega, fun k hk' => ?_⟩
      have := hk k hk'
      rw [← ht, List.getElem?_take, if_pos (by omega), Array.getElem?_toList] at this
      exact this
theorem own_bl {W : World} {B e size n : Nat} {ao : Option Addr} {cap : Nat} {xs : List Value} (h : W.ownsRow B e size (.slice ao n cap) n xs) : ao = none ∨ ∃ g, ao = some ⟨g, 0, none⟩ := by
  rcases h.2 with ⟨hv, _⟩ | ⟨g, cap', cur, hv, _⟩
  · injection hv with h1; exact .inl h1
  · injection hv with h1; exact .inr ⟨g, h1⟩
theorem AppSt.next {gR B N : Nat} {S : Nat → Sl} {R : Array Value} {m : Nat} {W W9 : World} {ao ao' : Option Addr} {cap cap' j : Nat} (h : AppSt gR B N S R m W ao cap j) (hm : m < 4) (hA : Apart gR N S) (hN : N ≤ W.heap.size) {xs ns : List Value}
    (hxs : W.ownsRow B 29 4 (.slice ao ((S m).n + j) cap) ((S m).n + j) xs) (hkx : ∀ k, k < (S m).n → xs[k * 4]? = some (.int .i64 (1000 + (m : Int))))
    (h9 : W9.ownsRow B 29 4 (.slice ao' ((S m).n + j + 1) cap') ((S m).n + j + 1) (xs ++ ns))
    (hw : (Value.slice ao' ((S m).n + j + 1) cap').ownBlock = (Value.slice ao ((S m).n + j) cap).ownBlock ∧ W.grownBy W9 (Value.slice ao ((S m).n + j) cap).ownBlock ∨ (∃ g, ao' = some ⟨g, 0, none⟩ ∧ W.heap.size ≤ g) ∧ W.grownBy W9 none) :
    AppSt gR B N S R m W9 ao' cap' (j + 1) := by
  have hL : ∃ ys, W9.ownsRow B 29 4 (.slice ao' ((S m).n + (j + 1)) cap') ((S m).n + (j + 1)) ys ∧ ∀ k, k < (S m).n → ys[k * 4]? = some (.int .i64 (1000 + (m : Int))) :=
    ⟨xs ++ ns, h9, fun k hk => by
      have := hkx k hk
      rw [List.getElem?_append_left (List.getElem?_eq_some_iff.1 this).1]; exact this⟩
  rcases hw with ⟨hb, hg⟩ | ⟨⟨g, rfl, hge⟩, hg⟩
  · have hao : ao' = ao := by
      rcases own_bl h9 with rfl | ⟨g', rfl⟩ <;> rcases own_bl hxs with rfl | ⟨g, rfl⟩ <;> simp [Value.ownBlock] at hb ⊢
      exact hb
    subst hao
    have keep : ∀ k, k < W.heap.size → (∀ g, ao' = some ⟨g, 0, none⟩ → g ≠ k) → W9.heap[k]? = W.heap[k]? := fun k hk hne => hg.block k hk (fun e => by
      rcases own_bl hxs with rfl | ⟨g', rfl⟩
      · simp [Value.ownBlock] at e
      · simp [Value.ownBlock] at e; exact hne g' rfl e.symm)
    have keepI : ∀ i, i < 4 → i ≠ m → ∀ g, (S i).a = some ⟨g, 0, none⟩ → W9.heap[g]? = W.heap[g]? := fun i hi hne g hga =>
      keep g (Nat.lt_of_lt_of_le (hA.lt i g hi hga) hN) (fun g' he e => (h.ne g' he).2 i hi hne (by rw [hga, e]))
    refine ⟨(keep gR (Nat.lt_of_lt_of_le hA.ltR hN) (fun g he => (h.ne g he).1)).trans h.H, fun i h1 h2 => (h.HS i h1 h2).keep (keepI i h2 (by omega)), fun i hi hne => (h.HW i hi hne).keep (keepI i hi hne), hL, h.ne, ?_⟩
    rcases h.M with ⟨h1, h2⟩ | h1
    · exact .inl ⟨h1.keep (fun g hga => keep g (Nat.lt_of_lt_of_le (hA.lt m g hm hga) hN) (fun g' he e => h2 g' he (by rw [hga, e]))), h2⟩
    · exact .inr h1
  · have keep : ∀ k, k < W.heap.size → W9.heap[k]? = W.heap[k]? := fun k hk => hg.block k hk (by simp)
    have keepI : ∀ i, i < 4 → ∀ g, (S i).a = some ⟨g, 0, none⟩ → W9.heap[g]? = W.heap[g]? := fun i hi g hga => keep g (Nat.lt_of_lt_of_le (hA.lt i g hi hga) hN)
    refine ⟨(keep gR (Nat.lt_of_lt_of_le hA.ltR hN)).trans h.H, fun i h1 h2 => (h.HS i h1 h2).keep (keepI i h2), fun i hi hne => (h.HW i hi hne).keep (keepI i hi), hL, fun g' he => ?_, ?_⟩
    · injection he with he; injection he with he
      subst he
      exact ⟨by have := hA.ltR; omega, fun i hi _ e => by have := hA.lt i _ hi e; omega⟩
    · refine .inl ⟨h.rowM.keep (keepI m hm), fun g' he e => ?_⟩
      injection he with he; injection he with he
      subst he
      have := hA.lt m _ hm e; omega
theorem AppSt.alloc {gR B N : Nat} {S : Nat → Sl} {R : Array Value} {m : Nat} {W : World} {ao : Option Addr} {cap j : Nat} (h : AppSt gR B N S R m W ao cap j) (hm : m < 4) (hA : Apart gR N S) (hN : N ≤ W.heap.size) (ob : Obj) : AppSt gR B N S R m (W.alloc ob) ao cap j := by
  have keep : ∀ k, k < W.heap.size → (W.alloc ob).heap[k]? = W.heap[k]? := fun k hk => Below.heap_alloc W ob k hk
  have keepI : ∀ i, i < 4 → ∀ g, (S i).a = some ⟨g, 0, none⟩ → (W.alloc ob).heap[g]? = W.heap[g]? := fun i hi g hga => keep g (Nat.lt_of_lt_of_le (hA.lt i g hi hga) hN)
  refine ⟨(keep gR (Nat.lt_of_lt_of_le hA.ltR hN)).trans h.H, fun i h1 h2 => (h.HS i h1 h2).keep (keepI i h2), fun i hi hne => (h.HW i hi hne).keep (keepI i hi), ?_, h.ne, ?_⟩
  · obtain ⟨xs, ho, hk⟩ := h.L
    exact ⟨xs, ho.kept (row := none) ⟨rfl, rfl, rfl, by simp, fun k hk _ => keep k hk⟩ (by cases (Value.slice ao ((S m).n + j) cap).ownBlock <;> simp), hk⟩
  · rcases h.M with ⟨h1, h2⟩ | h1
    · exact .inl ⟨h1.keep (keepI m hm), h2⟩
    · exact .inr h1
theorem AppSt.start {gR B N : Nat} {S : Nat → Sl} {R : Array Value} {m : Nat} {W : World} (hm : m < 4) (hA : Apart gR N S) (H : W.heap[gR]? = some (.cells R 25 (0, 0))) (HS : ∀ i, m ≤ i → i < 4 → RowS W B (S i)) (HW : ∀ i, i < 4 → RowW W (S i) i (S i).n) :
    AppSt gR B N S R m W (S m).a (S m).c 0 := by
  refine ⟨H, fun i h1 h2 => HS i (by omega) h2, fun i hi _ => HW i hi, ?_, fun g he => ⟨hA.no m g hm he, fun i hi hne e => hA.ne m i g g hm hi (Ne.symm hne) he e rfl⟩, .inr rfl⟩
  obtain ⟨xs, ho⟩ := HS m (Nat.le_refl _) hm
  refine ⟨xs, ho, fun k hk => ?_⟩
  rcases HW m hm with h0 | ⟨g, cur, ha, hg, hs, hc⟩
  · omega
  · rcases ho.2 with ⟨_, h2⟩ | ⟨g', cap', cur', hv, _, hg', hn, _, hs', ht⟩
    · omega
    · have hv' : Value.slice (S m).a (S m).n (S m).c = .slice (some ⟨g', 0, none⟩) (S m).n cap' := hv
      injection hv' with e1 e2 e3
      rw [ha] at e1
      injection e1 with e1; injection e1 with e1
      subst e1
      rw [hg] at hg'
      injection hg' with hg'; injection hg' with hg'
      subst hg'
      rw [← ht, List.getElem?_take, if_pos (by omega), Array.getElem?_toList]
      exact hc k hk

/-- a mark is written at place j of row m -/
theorem stepStore {gR B : Nat} {S : Nat → Sl} {R : Array Value} {W : World} {N : Nat} (hA : Apart gR N S) (H : W.heap[gR]? = some (.cells R 25 (0, 0))) (HS : ∀ i, i < 4 → RowS W B (S i)) {m j : Nat} (hm : m < 4) (hj : j < (S m).n)
    (HW : ∀ i, i < m → RowW W (S i) i (S i).n) (HJ : RowW W (S m) m j) :
    ∃ g, (S m).a = some ⟨g, 0, none⟩ ∧ (∃ v, W.cell? ⟨g, j * 4, none⟩ = some v) ∧ (∃ v, W.cell? ⟨g, j * 4 + 1, none⟩ = some v) ∧ (∃ v, W.cell? ⟨g, j * 4 + 2, none⟩ = some v) ∧ (∃ v, W.cell? ⟨g, j * 4 + 3, none⟩ = some v) ∧ (∀ t, W.frozen? ⟨g, t, none⟩ = false) ∧
      ∃ W4, (((W.setCell ⟨g, j * 4, none⟩ (.int .i64 (1000 + (m : Int)))).setCell ⟨g, j * 4 + 1, none⟩ (.int .i64 0)).setCell ⟨g, j * 4 + 2, none⟩ (.int .i64 0)).setCell ⟨g, j * 4 + 3, none⟩ (.int .i64 0) = W4 ∧ Below B W W4 ∧ W4.heap[gR]? = some (.cells R 25 (0, 0)) ∧
        (∀ i, i < 4 → RowS W4 B (S i)) ∧ (∀ i, i < m → RowW W4 (S i) i (S i).n) ∧ RowW W4 (S m) m (j + 1) := by
  obtain ⟨g, cur, ha, hb, hg, hnc, hcm, hsz⟩ := (HS m hm).form (by omega)
  have cell : ∀ t, t < 4 → ∃ v, W.cell? ⟨g, j * 4 + t, none⟩ = some v := fun t ht => by
    have h1 : j * 4 + t < cur.size := by omega
    exact ⟨cur[j * 4 + t], blk_cell hg (by simp [h1])⟩
  refine ⟨g, ha, by simpa using cell 0 (by omega), cell 1 (by omega), cell 2 (by omega), cell 3 (by omega), unfrozen hg, ?_⟩
  obtain ⟨W4, cur', e4, hg4, hs4, hv4, hk4, hb4, ho4⟩ := store4 hg (j * 4) (by omega) (.int .i64 (1000 + (m : Int))) (.int .i64 0) (.int .i64 0) (.int .i64 0)
  have other : ∀ i, i < 4 → i ≠ m → ∀ h, (S i).a = some ⟨h, 0, none⟩ → W4.heap[h]? = W.heap[h]? := fun i hi hne h hh => ho4 h (fun e => hA.ne m i g h hm hi (Ne.symm hne) ha hh e.symm)
  refine ⟨W4, e4, hb4 B hb, (ho4 gR (fun e => hA.no m g hm ha e.symm)).trans H, fun i hi => ?_, fun i hi => (HW i hi).keep (other i (by omega) (by omega)), ?_⟩
  · by_cases him : i = m
    · subst him
      exact RowS.mk ha hb hg4 hnc hcm (by omega)
    · exact (HS i hi).keep (other i hi him)
  · refine .inr ⟨g, cur', ha, hg4, by omega, fun k hk => ?_⟩
    by_cases hkj : k = j
    · subst hkj; exact hv4
    · rcases HJ with h0 | ⟨g', cur0, ha', hg', _, hc⟩
      · omega
      · rw [ha] at ha'
        injection ha' with ha'
        injection ha' with ha'
        subst ha'
        rw [hg] at hg'
        injection hg' with hg'
        injection hg' with hg'
        subst hg'
        rw [hk4 (k * 4) (by omega)]
        exact hc k (by omega)

set_option maxHeartbeats 6400000 in
set_option maxRecDepth 100000 in
theorem own_true (gR B : Nat) (S : Nat → Sl) (R : Array Value) (W : World) (hA : Apart gR W.heap.size S) (hR : W.heap[gR]? = some (.cells R 25 (0, 0))) (hc : ∀ i, i < 4 → R[i * 7 + 6]? = some (S i).v)
    (hS : ∀ i, i < 4 → RowS W B (S i)) (hn : ∀ i, i < 4 → (S i).n ≤ 1073741824) (hB : B ≤ W.heap.size) :
    Calls Tryd.prog 11 #[.slice (some ⟨gR, 0, none⟩) 4 4] W fun e W' => e = .returned (.bool true) ∧ Below B W W' := by
  have HR0 := Lib.hid hR
  have HA := Lib.hid hA
  have HC := Lib.hid hc
  have HS := Lib.hid hS
  have HN := Lib.hid hn
  clear hR hA hc hS hn
  go_enter Tryd.func11, Tryd.ntmps11
  go_wp2
  go_loopg [3, 4] 4 (fun q i _ W' => ∃ m : Nat, Hid (q = 4 - m ∧ m ≤ 4) ∧ i = .int .i64 m ∧ Below B W W' ∧ W'.heap[gR]? = some (.cells R 25 (0, 0)) ∧ Hid (∀ i, i < 4 → RowS W' B (S i)) ∧ Hid (∀ i, i < m → RowW W' (S i) i (S i).n))
  case atStart => exact ⟨0, Lib.hid ⟨rfl, by omega⟩, rfl, Below.refl _ _, HR0.out, HS, Lib.hid (fun i hi => by omega)⟩
  case round =>
    clear HS
    obtain ⟨m, hq, rfl, hb, H, HS, HW⟩ := hrel
    obtain ⟨rfl, hm⟩ := hq.out
    clear hq
    by_cases hlt : m < 4
    · have cR : wr.cell? ⟨gR, m * 7 + 6, none⟩ = some (.slice (S m).a (S m).n (S m).c) := blk_cell H (HC.out m hlt)
      have hnm : (S m).n ≤ 1073741824 := HN.out m hlt
      go_wp2_with fail
      obtain ⟨wo, rfl⟩ : ∃ wo : World, wo = wr := ⟨_, rfl⟩
      go_loopg [4] (S m).n (fun q k W' => ∃ j : Nat, Hid (q = (S m).n - j ∧ j ≤ (S m).n) ∧ k = .int .i64 j ∧ Below B W W' ∧ W'.heap[gR]? = some (.cells R 25 (0, 0)) ∧ Hid (∀ i, i < 4 → RowS W' B (S i)) ∧ Hid (∀ i, i < m → RowW W' (S i) i (S i).n) ∧ Hid (RowW W' (S m) m j))
      case atStart => exact ⟨0, Lib.hid ⟨rfl, by omega⟩, rfl, hb, H, HS, HW, Lib.hid (by
        by_cases h0 : (S m).n = 0
        · exact .inl h0
        · obtain ⟨g, cur, ha, _, hg, hnc, _, hsz⟩ := (HS.out m hlt).form (by omega)
          exact .inr ⟨g, cur, ha, hg, by omega, fun k hk => by omega⟩)⟩
      case round =>
        clear hb H HS HW cR
        obtain ⟨j, hq, rfl, hb, H, HS, HW, HJ⟩ := hrel
        obtain ⟨rfl, hj⟩ := hq.out
        clear hq
        have cR := blk_cell H (HC.out m hlt)
        unfold Sl.v at cR
        by_cases hjn : j < (S m).n
        · obtain ⟨g, ha, ⟨v0, d0⟩, ⟨v1, d1⟩, ⟨v2, d2⟩, ⟨v3, d3⟩, z, W4, e4, hb4, H4, HS4, HW4, HJ4⟩ := stepStore HA.out H HS.out hlt hjn HW.out HJ.out
          rw [ha] at cR
          replace hb := hb.trans hb4
          have HS4 := Lib.hid HS4
          have HW4 := Lib.hid HW4
          have HJ4 := Lib.hid HJ4
          clear ha HS HW HJ
          have hjn' : (j : Int) < ((S m).n : Int) := by omega
          go_wp2_with fail
          go_roundg ((S m).n - (j + 1))
          case measure => omega
          case rel => exact ⟨j + 1, Lib.hid ⟨rfl, by omega⟩, by go_num, hb, H4, HS4, HW4, HJ4⟩
        · obtain rfl : j = (S m).n := by omega
          go_wp2_with fail
          go_roundg (4 - (m + 1))
          case measure => omega
          case rel => exact ⟨m + 1, Lib.hid ⟨rfl, by omega⟩, by go_num, hb, H, HS, Lib.hid (fun i hi => by
            by_cases him : i = m
            · subst him; exact HJ.out
            · exact HW.out i (by omega))⟩
    · obtain rfl : m = 4 := by omega
      rw [show ((4 : Nat) : Int) = 4 from rfl]
      go_wp2_with fail
      have HW' : Hid (∀ i, i < 4 → RowW wr (S i) i (S i).n) := HW
      clear HW
      have HS' : Hid (∀ i, 0 ≤ i → i < 4 → RowS wr B (S i)) := Lib.hid (fun i _ hi => HS.out i hi)
      go_loopg [5, 6, 7] 4 (fun q i _ _ W' => ∃ m : Nat, Hid (q = 4 - m ∧ m ≤ 4) ∧ i = .int .i64 m ∧ Below B W W' ∧ W'.heap[gR]? = some (.cells R 25 (0, 0)) ∧ Hid (∀ i, m ≤ i → i < 4 → RowS W' B (S i)) ∧ Hid (∀ i, i < 4 → RowW W' (S i) i (S i).n))
      case atStart => exact ⟨0, Lib.hid ⟨rfl, by omega⟩, rfl, hb, H, HS', HW'⟩
      case round =>
        clear hb H HS HS' HW' hlt hm
        obtain ⟨m, hq, rfl, hb, H, HS, HW⟩ := hrel
        obtain ⟨rfl, hm⟩ := hq.out
        clear hq
        by_cases hlt : m < 4
        · have cR : wr.cell? ⟨gR, m * 7 + 6, none⟩ = some (.slice (S m).a (S m).n (S m).c) := blk_cell H (HC.out m hlt)
          have hnm : (S m).n ≤ 1073741824 := HN.out m hlt
          have hdec : decide ((m : Int) < 4) = true := decide_eq_true (by omega)
          have HX := Lib.hid (AppSt.start hlt HA.out H HS.out HW.out)
          go_wp2_with fail
          obtain ⟨wo, rfl⟩ : ∃ wo : World, wo = wr := ⟨_, rfl⟩
          go_loopg [6, 7] 64 (fun q l k W' => ∃ (j : Nat) (ao : Option Addr) (cap : Nat), Hid (q = 64 - j ∧ j ≤ 64) ∧ l = .slice ao ((S m).n + j) cap ∧ k = .int .i64 j ∧ Below B W W' ∧ Hid (AppSt gR B W.heap.size S R m W' ao cap j))
          case atStart => exact ⟨0, _, _, Lib.hid ⟨rfl, by omega⟩, rfl, rfl, hb, HX⟩
          case round =>
            clear hb H HS HW cR HX
            obtain ⟨j, ao, cap, hq, rfl, rfl, hb, HX⟩ := hrel
            obtain ⟨rfl, hj⟩ := hq.out
            clear hq
            by_cases hjn : j < 64
            · obtain ⟨g8, hg8⟩ : ∃ g8, wr.heap.size = g8 := ⟨_, rfl⟩
              have hX8 := HX.out.alloc hlt HA.out hb.size (.cells #[.int .i64 77, .int .i64 0, .int .i64 0, .int .i64 0] 29)
              have H8 : (wr.alloc (.cells #[.int .i64 77, .int .i64 0, .int .i64 0, .int .i64 0] 29)).heap[g8]? = some (.cells #[.int .i64 77, .int .i64 0, .int .i64 0, .int .i64 0] 29 (0, 0)) := by rw [← hg8]; exact blk_alloc _
              have hb8 : Below B W (wr.alloc (.cells #[.int .i64 77, .int .i64 0, .int .i64 0, .int .i64 0] 29)) := hb.alloc (Nat.le_trans hB hb.size) _
              obtain ⟨w8, hw8⟩ : ∃ w8, wr.alloc (.cells #[.int .i64 77, .int .i64 0, .int .i64 0, .int .i64 0] 29) = w8 := ⟨_, rfl⟩
              rw [hw8] at hX8 H8 hb8
              obtain ⟨xs, hxs, hkx⟩ := hX8.L
              have HN8 := hb8.size
              replace hX8 := Lib.hid hX8
              replace hkx := Lib.hid hkx
              replace hxs := Lib.hid hxs
              have HB8 : B ≤ w8.heap.size := by omega
              obtain ⟨i0, hi0, hzi0, hzi1, hzi2⟩ := info_parts infoF
              have hone8 : ∀ v ∈ ([.int .i64 77, .int .i64 0, .int .i64 0, .int .i64 0] : List Value), v.oneCell' = true := by simp [Value.oneCell']
              have hcap8 : (S m).n + j + 1 ≤ maxLen := by unfold maxLen; omega
              replace hone8 := Lib.hid hone8
              replace hcap8 := Lib.hid hcap8
              replace hi0 := Lib.hid hi0
              replace hzi0 := Lib.hid hzi0
              replace hzi1 := Lib.hid hzi1
              replace hzi2 := Lib.hid hzi2
              clear HX hb
              go_wp2_with (at_builtin; refine wpList_append_two w8 rfl (.tmp 51) (.tmp 53) 23 rfl B 29 i0 _ 4 32 Tryd.underlying23 hi0.out hzi0.out hzi1.out hzi2.out rfl (by decide) ao ((S m).n + j) cap xs rfl hxs.out ⟨g8, 0, none⟩ 1 [.int .i64 77, .int .i64 0, .int .i64 0, .int .i64 0] rfl rfl (fun j v hj => by rw [Lib.add_plain, Nat.zero_add]; exact blk_cell H8 (by simpa using hj)) hone8.out hcap8.out (by omega) HB8 ?_; intro ao' cap' w9 h9 hw9; have HX9 := Lib.hid (hX8.out.next hlt HA.out HN8 hxs.out hkx.out h9 hw9); have hb9 : Below B W w9 := (by rcases hw9 with ⟨_, hg⟩ | ⟨_, hg⟩; exact hb8.grown hg HB8 (own_base' hxs.out); exact hb8.grown hg HB8 (fun k hk => by cases hk)); clear h9 hw9)
              go_roundg (64 - (j + 1))
              case measure => omega
              case rel => exact ⟨j + 1, ao', cap', Lib.hid ⟨rfl, by omega⟩, rfl, by go_num, hb9, HX9⟩
            · obtain rfl : j = 64 := by omega
              have H := HX.out.H
              have HS : Hid (∀ i, m + 1 ≤ i → i < 4 → RowS wr B (S i)) := Lib.hid (fun i h1 h2 => HX.out.HS i (by omega) h2)
              have HW : Hid (∀ i, i < 4 → RowW wr (S i) i (S i).n) := Lib.hid (fun i hi => by
                by_cases him : i = m
                · subst him; exact HX.out.rowM
                · exact HX.out.HW i hi him)
              clear HX
              go_wp2_with fail
              go_roundg (4 - (m + 1))
              case measure => omega
              case rel => exact ⟨m + 1, Lib.hid ⟨rfl, by omega⟩, by go_num, hb, H, HS, HW⟩
        · obtain rfl : m = 4 := by omega
          clear HS
          rw [show ((4 : Nat) : Int) = 4 from rfl]
          go_wp2_with fail
          go_loopg [8, 9] 4 (fun q i _ W' => ∃ m : Nat, Hid (q = 4 - m ∧ m ≤ 4) ∧ i = .int .i64 m ∧ Below B W W' ∧ W'.heap[gR]? = some (.cells R 25 (0, 0)) ∧ Hid (∀ i, i < 4 → RowW W' (S i) i (S i).n))
          case atStart => exact ⟨0, Lib.hid ⟨rfl, by omega⟩, rfl, hb, H, HW⟩
          case round =>
            clear hb H HW hlt hm
            obtain ⟨m, hq, rfl, hb, H, HW⟩ := hrel
            obtain ⟨rfl, hm⟩ := hq.out
            clear hq
            by_cases hlt : m < 4
            · have cR : wr.cell? ⟨gR, m * 7 + 6, none⟩ = some (.slice (S m).a (S m).n (S m).c) := blk_cell H (HC.out m hlt)
              have hnm : (S m).n ≤ 1073741824 := HN.out m hlt
              have hdec : decide ((m : Int) < 4) = true := decide_eq_true (by omega)
              go_wp2_with fail
              obtain ⟨wo, rfl⟩ : ∃ wo : World, wo = wr := ⟨_, rfl⟩
              go_loopg [9] (S m).n (fun q k W' => ∃ j : Nat, Hid (q = (S m).n - j ∧ j ≤ (S m).n) ∧ k = .int .i64 j ∧ Below B W W' ∧ W'.heap[gR]? = some (.cells R 25 (0, 0)) ∧ Hid (∀ i, i < 4 → RowW W' (S i) i (S i).n))
              case atStart => exact ⟨0, Lib.hid ⟨rfl, by omega⟩, rfl, hb, H, HW⟩
              case round =>
                clear hb H HW cR
                obtain ⟨j, hq, rfl, hb, H, HW⟩ := hrel
                obtain ⟨rfl, hj⟩ := hq.out
                clear hq
                have cR := blk_cell H (HC.out m hlt)
                unfold Sl.v at cR
                by_cases hjn : j < (S m).n
                · obtain ⟨g, cur, ha, hg, hs, hk⟩ : ∃ g cur, (S m).a = some ⟨g, 0, none⟩ ∧ wr.heap[g]? = some (.cells cur 29 (0, 0)) ∧ (S m).n * 4 ≤ cur.size ∧ ∀ k, k < (S m).n → cur[k * 4]? = some (.int .i64 (1000 + (m : Int))) := (HW.out m hlt).resolve_left (by omega)
                  have d0 := blk_cell hg (hk j hjn)
                  rw [ha] at cR
                  clear hk hg hs ha
                  have hjn' : (j : Int) < ((S m).n : Int) := by omega
                  go_wp2_with fail
                  go_roundg ((S m).n - (j + 1))
                  case measure => omega
                  case rel => exact ⟨j + 1, Lib.hid ⟨rfl, by omega⟩, by go_num, hb, H, HW⟩
                · obtain rfl : j = (S m).n := by omega
                  go_wp2_with fail
                  go_roundg (4 - (m + 1))
                  case measure => omega
                  case rel => exact ⟨m + 1, Lib.hid ⟨rfl, by omega⟩, by go_num, hb, H, HW⟩
            · obtain rfl : m = 4 := by omega
              go_wp2_with fail
              go_ret
              exact ⟨rfl, hb⟩
end Go.Proofs.YtioapjnaopnhaaaDoor
