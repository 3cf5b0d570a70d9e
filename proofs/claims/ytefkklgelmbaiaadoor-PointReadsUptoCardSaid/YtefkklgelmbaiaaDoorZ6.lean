/- What is read is within the kinds' bounds; lists of objects as they are read. -/
import Derived.Test.YtefkklgelmbaiaaDoorZ5
import Derived.Deep.DeepCutAuto
set_option linter.unusedSimpArgs false
set_option linter.unusedVariables false
namespace Go.Proofs.YtefkklgelmbaiaaDoor
open Go.RowKit Go.Proofs

theorem numR_le {L : List Int} (hL : bytesOk L) {most : Int} (h0 : 0 ≤ most) (size : Nat) (o : Option Nat) : 0 ≤ (numR L size most o).1 ∧ (numR L size most o).1 ≤ most := by
  cases o with
  | none => exact ⟨Int.le_refl _, h0⟩
  | some i =>
    cases hp : numP L size most i with
    | none => simp only [numR, hp]; exact ⟨Int.le_refl _, h0⟩
    | some p =>
      obtain ⟨v, j⟩ := p
      have := numP_le hL hp
      simp only [numR, hp]
      exact ⟨this.1, this.2.1⟩
theorem numR_nil {L : List Int} (h : L = []) {size : Nat} (hs : 1 ≤ size) (most : Int) (o : Option Nat) : (numR L size most o).2 = none := by
  subst h
  cases o with
  | none => rfl
  | some i =>
    have hnp : numP [] size most i = none := by unfold numP; rw [if_neg (fun k => by have := k.1; simp at this; omega)]
    simp only [numR, hnp]
theorem takeR_ok {L : List Int} (hL : bytesOk L) (n : Nat) (o : Option Nat) : bytesOk (takeR L n o).1 ∧ (takeR L n o).1.length ≤ L.length := by
  cases o with
  | none => exact ⟨fun x hx => by simp [takeR] at hx, by simp [takeR]⟩
  | some i =>
    simp only [takeR]
    split
    · exact ⟨(hL.drop i).take n, by rw [List.length_take, List.length_drop]; omega⟩
    · exact ⟨fun x hx => by simp at hx, by simp⟩

/-! ### The document's -/
def chunkR (L : List Int) (o : Option Nat) : Chk × Option Nat :=
  (⟨(numR L 4 1048575 o).1, (placeR L (numR L 4 1048575 o).2).1.1, (placeR L (numR L 4 1048575 o).2).1.2, (numR L 2 2048 (placeR L (numR L 4 1048575 o).2).2).1⟩, (numR L 2 2048 (placeR L (numR L 4 1048575 o).2).2).2)
def listR {α : Type} (f : Option Nat → α × Option Nat) : Nat → Option Nat → List α × Option Nat
  | 0, o => ([], o)
  | _ + 1, none => ([], none)
  | n + 1, some i => ((f (some i)).1 :: (listR f n (f (some i)).2).1, (listR f n (f (some i)).2).2)
def bodyR (L : List Int) (o : Option Nat) : Nod × Option Nat :=
  ((readNL (takeR L (numR L 1 255 o).1.toNat (numR L 1 255 o).2).1).1, if (readNL (takeR L (numR L 1 255 o).1.toNat (numR L 1 255 o).2).1).2 = 0 then (takeR L (numR L 1 255 o).1.toNat (numR L 1 255 o).2).2 else none)
def headR (L : List Int) (o : Option Nat) : (Nod × Int × Int) × Option Nat :=
  (((bodyR L o).1, (placeR L (bodyR L o).2).1.1, (placeR L (bodyR L o).2).1.2), (placeR L (bodyR L o).2).2)
def partR (L : List Int) (o : Option Nat) : (Nod × Int × Int) × Option Nat :=
  if (numR L 1 1 o).1 = 1 then headR L (numR L 1 1 o).2 else ((Nod.zero, 0, 0), (numR L 1 1 o).2)
def objR (L : List Int) (o : Option Nat) : Obj' × Option Nat :=
  (⟨(numR L 4 1048575 o).1, decide ((numR L 1 1 (numR L 4 1048575 o).2).1 = 1), (partR L (numR L 4 1048575 o).2).1.1, (partR L (numR L 4 1048575 o).2).1.2.1, (partR L (numR L 4 1048575 o).2).1.2.2,
    (listR (chunkR L) (numR L 4 65536 (partR L (numR L 4 1048575 o).2).2).1.toNat (numR L 4 65536 (partR L (numR L 4 1048575 o).2).2).2).1⟩,
    (listR (chunkR L) (numR L 4 65536 (partR L (numR L 4 1048575 o).2).2).1.toNat (numR L 4 65536 (partR L (numR L 4 1048575 o).2).2).2).2)
def blockR (L : List Int) (o : Option Nat) : Blk × Option Nat :=
  (⟨(numR L 1 6 o).1, (numR L 6 281474976710655 (numR L 1 6 o).2).1, decide ((numR L 1 1 (numR L 6 281474976710655 (numR L 1 6 o).2).2).1 = 1), (numR L 2 256 (numR L 1 1 (numR L 6 281474976710655 (numR L 1 6 o).2).2).2).1⟩,
    (numR L 2 256 (numR L 1 1 (numR L 6 281474976710655 (numR L 1 6 o).2).2).2).2)
/-! ### The program's -/
def chunkP (L : List Int) (i : Nat) : Option (Chk × Nat) := (numP L 4 1048575 i).bind fun a => (placeP L a.2).bind fun p => (numP L 2 2048 p.2).map fun n => (⟨a.1, p.1.1, p.1.2, n.1⟩, n.2)
def listP {α : Type} (f : Nat → Option (α × Nat)) : Nat → Nat → Option (List α × Nat)
  | 0, i => some ([], i)
  | n + 1, i => (f i).bind fun x => (listP f n x.2).map fun r => (x.1 :: r.1, r.2)
def bodyP (L : List Int) (i : Nat) : Option (Nod × Nat) := (numP L 1 255 i).bind fun n => if n.2 + n.1.toNat ≤ L.length ∧ (readNL ((L.drop n.2).take n.1.toNat)).2 = 0 then some ((readNL ((L.drop n.2).take n.1.toNat)).1, n.2 + n.1.toNat) else none
def headP (L : List Int) (i : Nat) : Option ((Nod × Int × Int) × Nat) := (bodyP L i).bind fun n => (placeP L n.2).map fun p => ((n.1, p.1.1, p.1.2), p.2)
def partP (L : List Int) (i : Nat) : Option ((Nod × Int × Int) × Nat) := (numP L 1 1 i).bind fun h => if h.1 = 1 then headP L h.2 else some ((Nod.zero, 0, 0), h.2)
def objP (L : List Int) (i : Nat) : Option (Obj' × Nat) := (numP L 4 1048575 i).bind fun a => (numP L 1 1 a.2).bind fun h => (partP L a.2).bind fun m => (numP L 4 65536 m.2).bind fun n => (listP (chunkP L) n.1.toNat n.2).map fun cs => (⟨a.1, decide (h.1 = 1), m.1.1, m.1.2.1, m.1.2.2, cs.1⟩, cs.2)
def blockP (L : List Int) (i : Nat) : Option (Blk × Nat) := (numP L 1 6 i).bind fun a => (numP L 6 281474976710655 a.2).bind fun h => (numP L 1 1 h.2).bind fun r => (numP L 2 256 r.2).map fun v => (⟨a.1, h.1, decide (r.1 = 1), v.1⟩, v.2)

/-- a reader that goes on and one that gives up tell the same -/
structure Agree {α : Type} (R : Option Nat → α × Option Nat) (P : Nat → Option (α × Nat)) : Prop where
  yes : ∀ i v j, P i = some (v, j) → R (some i) = (v, some j)
  no : ∀ i, P i = none → (R (some i)).2 = none
  stop : (R none).2 = none
theorem agree_num (L : List Int) (s : Nat) (m : Int) : Agree (numR L s m) (numP L s m) where
  yes i v j h := by simp only [numR, h]
  no i h := by simp only [numR, h]
  stop := rfl
theorem Agree.split {α : Type} {R : Option Nat → α × Option Nat} {P : Nat → Option (α × Nat)} (h : Agree R P) (i : Nat) : (P i = none ∧ (R (some i)).2 = none) ∨ ∃ v j, P i = some (v, j) ∧ R (some i) = (v, some j) := by
  cases hp : P i with
  | none => exact .inl ⟨rfl, h.no i hp⟩
  | some x => obtain ⟨v, j⟩ := x; exact .inr ⟨v, j, rfl, h.yes i v j hp⟩
theorem agree_place (L : List Int) : Agree (placeR L) (placeP L) where
  yes i v j h := by
    rcases (agree_num L 2 4095).split i with ⟨h1, h2⟩ | ⟨a, k, h1, h2⟩
    · simp [placeP, h1] at h
    · rcases (agree_num L 2 255).split k with ⟨h3, h4⟩ | ⟨b, l, h3, h4⟩
      · simp [placeP, h1, h3] at h
      · simp [placeP, h1, h3] at h
        obtain ⟨rfl, rfl⟩ := h
        simp [placeR, h2, h4]
  no i h := by
    rcases (agree_num L 2 4095).split i with ⟨h1, h2⟩ | ⟨a, k, h1, h2⟩
    · simp only [placeR, h2]; exact (agree_num L 2 255).stop
    · rcases (agree_num L 2 255).split k with ⟨h3, h4⟩ | ⟨b, l, h3, h4⟩
      · simp only [placeR, h2, h4]
      · simp [placeP, h1, h3] at h
  stop := rfl
theorem agree_chunk (L : List Int) : Agree (chunkR L) (chunkP L) where
  yes i v j h := by
    rcases (agree_num L 4 1048575).split i with ⟨h1, h2⟩ | ⟨a, k, h1, h2⟩
    · simp [chunkP, h1] at h
    · rcases (agree_place L).split k with ⟨h3, h4⟩ | ⟨b, l, h3, h4⟩
      · simp [chunkP, h1, h3] at h
      · rcases (agree_num L 2 2048).split l with ⟨h5, h6⟩ | ⟨c, m, h5, h6⟩
        · simp [chunkP, h1, h3, h5] at h
        · simp [chunkP, h1, h3, h5] at h
          obtain ⟨rfl, rfl⟩ := h
          simp [chunkR, h2, h4, h6]
  no i h := by
    rcases (agree_num L 4 1048575).split i with ⟨h1, h2⟩ | ⟨a, k, h1, h2⟩
    · simp only [chunkR, h2, (agree_place L).stop, (agree_num L 2 2048).stop]
    · rcases (agree_place L).split k with ⟨h3, h4⟩ | ⟨b, l, h3, h4⟩
      · simp only [chunkR, h2, h4, (agree_num L 2 2048).stop]
      · rcases (agree_num L 2 2048).split l with ⟨h5, h6⟩ | ⟨c, m, h5, h6⟩
        · simp only [chunkR, h2, h4, h6]
        · simp [chunkP, h1, h3, h5] at h
  stop := rfl
theorem listR_none {α : Type} (R : Option Nat → α × Option Nat) (n : Nat) : listR R n none = ([], none) := by cases n <;> rfl
theorem agree_list {α : Type} {R : Option Nat → α × Option Nat} {P : Nat → Option (α × Nat)} (h : Agree R P) (n : Nat) : Agree (listR R n) (listP P n) := by
  induction n with
  | zero => exact ⟨fun i v j e => by simp only [listP, Option.some.injEq, Prod.mk.injEq] at e; obtain ⟨rfl, rfl⟩ := e; rfl, fun i e => by simp [listP] at e, rfl⟩
  | succ n ih =>
    refine ⟨fun i v j e => ?_, fun i e => ?_, rfl⟩
    · rcases h.split i with ⟨h1, h2⟩ | ⟨a, k, h1, h2⟩
      · simp [listP, h1] at e
      · rcases ih.split k with ⟨h3, h4⟩ | ⟨b, l, h3, h4⟩
        · simp [listP, h1, h3] at e
        · simp [listP, h1, h3] at e
          obtain ⟨rfl, rfl⟩ := e
          simp only [listR, h2, h4]
    · rcases h.split i with ⟨h1, h2⟩ | ⟨a, k, h1, h2⟩
      · simp only [listR, h2, listR_none]
      · rcases ih.split k with ⟨h3, h4⟩ | ⟨b, l, h3, h4⟩
        · simp only [listR, h2, h4]
        · simp [listP, h1, h3] at e
theorem agree_body (L : List Int) : Agree (bodyR L) (bodyP L) where
  yes i v j h := by
    rcases (agree_num L 1 255).split i with ⟨h1, h2⟩ | ⟨a, k, h1, h2⟩
    · simp [bodyP, h1] at h
    · simp only [bodyP, h1, Option.bind_some] at h
      split at h
      · rename_i hc
        simp only [Option.some.injEq, Prod.mk.injEq] at h
        obtain ⟨rfl, rfl⟩ := h
        simp only [bodyR, h2, takeR]
        rw [if_pos hc.1]
        simp only [if_pos hc.2]
      · cases h
  no i h := by
    rcases (agree_num L 1 255).split i with ⟨h1, h2⟩ | ⟨a, k, h1, h2⟩
    · simp only [bodyR, h2, takeR]; split <;> rfl
    · simp only [bodyP, h1, Option.bind_some] at h
      simp only [bodyR, h2, takeR]
      split at h
      · cases h
      · rename_i hc
        by_cases h5 : k + a.toNat ≤ L.length
        · rw [if_pos h5]
          have : ¬ (readNL ((L.drop k).take a.toNat)).2 = 0 := fun h6 => hc ⟨h5, h6⟩
          simp only [if_neg this]
        · rw [if_neg h5]; split <;> rfl
  stop := by simp only [bodyR, (agree_num L 1 255).stop, takeR]; split <;> rfl
theorem agree_head (L : List Int) : Agree (headR L) (headP L) where
  yes i v j h := by
    rcases (agree_body L).split i with ⟨h1, h2⟩ | ⟨a, k, h1, h2⟩
    · simp [headP, h1] at h
    · rcases (agree_place L).split k with ⟨h3, h4⟩ | ⟨b, l, h3, h4⟩
      · simp [headP, h1, h3] at h
      · simp [headP, h1, h3] at h
        obtain ⟨rfl, rfl⟩ := h
        simp [headR, h2, h4]
  no i h := by
    rcases (agree_body L).split i with ⟨h1, h2⟩ | ⟨a, k, h1, h2⟩
    · simp only [headR, h2, (agree_place L).stop]
    · rcases (agree_place L).split k with ⟨h3, h4⟩ | ⟨b, l, h3, h4⟩
      · simp only [headR, h2, h4]
      · simp [headP, h1, h3] at h
  stop := by simp only [headR, (agree_body L).stop, (agree_place L).stop]
theorem agree_part (L : List Int) : Agree (partR L) (partP L) where
  yes i v j h := by
    rcases (agree_num L 1 1).split i with ⟨h1, h2⟩ | ⟨a, k, h1, h2⟩
    · simp [partP, h1] at h
    · simp only [partP, h1, Option.bind_some] at h
      simp only [partR, h2]
      by_cases ha : a = 1
      · rw [if_pos ha] at h ⊢; exact (agree_head L).yes k v j h
      · rw [if_neg ha] at h ⊢
        simp only [Option.some.injEq, Prod.mk.injEq] at h
        obtain ⟨rfl, rfl⟩ := h
        rfl
  no i h := by
    rcases (agree_num L 1 1).split i with ⟨h1, h2⟩ | ⟨a, k, h1, h2⟩
    · simp only [partR, h2]
      split
      · exact (agree_head L).stop
      · rfl
    · simp only [partP, h1, Option.bind_some] at h
      simp only [partR, h2]
      by_cases ha : a = 1
      · rw [if_pos ha] at h ⊢; exact (agree_head L).no k h
      · rw [if_neg ha] at h; cases h
  stop := by
    simp only [partR, (agree_num L 1 1).stop]
    split
    · exact (agree_head L).stop
    · rfl
theorem agree_obj (L : List Int) : Agree (objR L) (objP L) where
  yes i v j h := by
    rcases (agree_num L 4 1048575).split i with ⟨h1, h2⟩ | ⟨a, k, h1, h2⟩
    · simp [objP, h1] at h
    · rcases (agree_num L 1 1).split k with ⟨h3, h4⟩ | ⟨b, l, h3, h4⟩
      · simp [objP, h1, h3] at h
      · rcases (agree_part L).split k with ⟨h5, h6⟩ | ⟨m, q, h5, h6⟩
        · simp [objP, h1, h3, h5] at h
        · rcases (agree_num L 4 65536).split q with ⟨h7, h8⟩ | ⟨n, r, h7, h8⟩
          · simp [objP, h1, h3, h5, h7] at h
          · rcases (agree_list (agree_chunk L) n.toNat).split r with ⟨h9, h10⟩ | ⟨cs, t, h9, h10⟩
            · simp [objP, h1, h3, h5, h7, h9] at h
            · simp [objP, h1, h3, h5, h7, h9] at h
              obtain ⟨rfl, rfl⟩ := h
              simp only [objR, h2, h4, h6, h8, h10]
  no i h := by
    rcases (agree_num L 4 1048575).split i with ⟨h1, h2⟩ | ⟨a, k, h1, h2⟩
    · simp only [objR, h2, (agree_part L).stop, (agree_num L 4 65536).stop, listR_none]
    · rcases (agree_num L 1 1).split k with ⟨h3, h4⟩ | ⟨b, l, h3, h4⟩
      · have hp : partP L k = none := by simp [partP, h3]
        simp only [objR, h2, (agree_part L).no k hp, (agree_num L 4 65536).stop, listR_none]
      · rcases (agree_part L).split k with ⟨h5, h6⟩ | ⟨m, q, h5, h6⟩
        · simp only [objR, h2, h6, (agree_num L 4 65536).stop, listR_none]
        · rcases (agree_num L 4 65536).split q with ⟨h7, h8⟩ | ⟨n, r, h7, h8⟩
          · simp only [objR, h2, h6, h8, listR_none]
          · rcases (agree_list (agree_chunk L) n.toNat).split r with ⟨h9, h10⟩ | ⟨cs, t, h9, h10⟩
            · simp only [objR, h2, h6, h8, h10]
            · simp [objP, h1, h3, h5, h7, h9] at h
  stop := by simp only [objR, (agree_num L 4 1048575).stop, (agree_part L).stop, (agree_num L 4 65536).stop, listR_none]
theorem agree_block (L : List Int) : Agree (blockR L) (blockP L) where
  yes i v j h := by
    rcases (agree_num L 1 6).split i with ⟨h1, h2⟩ | ⟨a, k, h1, h2⟩
    · simp [blockP, h1] at h
    · rcases (agree_num L 6 281474976710655).split k with ⟨h3, h4⟩ | ⟨b, l, h3, h4⟩
      · simp [blockP, h1, h3] at h
      · rcases (agree_num L 1 1).split l with ⟨h5, h6⟩ | ⟨c, m, h5, h6⟩
        · simp [blockP, h1, h3, h5] at h
        · rcases (agree_num L 2 256).split m with ⟨h7, h8⟩ | ⟨d, q, h7, h8⟩
          · simp [blockP, h1, h3, h5, h7] at h
          · simp [blockP, h1, h3, h5, h7] at h
            obtain ⟨rfl, rfl⟩ := h
            simp only [blockR, h2, h4, h6, h8]
  no i h := by
    rcases (agree_num L 1 6).split i with ⟨h1, h2⟩ | ⟨a, k, h1, h2⟩
    · simp only [blockR, h2, (agree_num L 6 281474976710655).stop, (agree_num L 1 1).stop, (agree_num L 2 256).stop]
    · rcases (agree_num L 6 281474976710655).split k with ⟨h3, h4⟩ | ⟨b, l, h3, h4⟩
      · simp only [blockR, h2, h4, (agree_num L 1 1).stop, (agree_num L 2 256).stop]
      · rcases (agree_num L 1 1).split l with ⟨h5, h6⟩ | ⟨c, m, h5, h6⟩
        · simp only [blockR, h2, h4, h6, (agree_num L 2 256).stop]
        · rcases (agree_num L 2 256).split m with ⟨h7, h8⟩ | ⟨d, q, h7, h8⟩
          · simp only [blockR, h2, h4, h6, h8]
          · simp [blockP, h1, h3, h5, h7] at h
  stop := rfl

/-! ### The whole -/
def stR (L : List Int) : St × Option Nat :=
  let a := numR L 8 281474976710655 (some 0)
  let b := numR L 8 281474976710656 a.2
  let c := numR L 4 4096 b.2
  let d := numR L 4 4096 c.2
  let n := numR L 4 4096 d.2
  let bs := listR (blockR L) n.1.toNat n.2
  let m := numR L 4 1048575 bs.2
  let os := listR (objR L) m.1.toNat m.2
  (⟨a.1, b.1, c.1 - 1, d.1 - 1, bs.1, os.1⟩, os.2)
def stP (L : List Int) : Option (St × Nat) :=
  (numP L 8 281474976710655 0).bind fun a => (numP L 8 281474976710656 a.2).bind fun b => (numP L 4 4096 b.2).bind fun c => (numP L 4 4096 c.2).bind fun d => (numP L 4 4096 d.2).bind fun n =>
    (listP (blockP L) n.1.toNat n.2).bind fun bs => (numP L 4 1048575 bs.2).bind fun m => (listP (objP L) m.1.toNat m.2).map fun os => (⟨a.1, b.1, c.1 - 1, d.1 - 1, bs.1, os.1⟩, os.2)
def St.zero : St := ⟨0, 0, 0, 0, [], []⟩
/-- the state that bytes are, and the error -/
def readR (L : List Int) : St × Int := match (stR L).2 with
  | none => (St.zero, 140)
  | some j => if j = L.length ∧ mayB (stR L).1 = true then ((stR L).1, 0) else (St.zero, 140)
def readP (L : List Int) : St × Int := match stP L with
  | none => (St.zero, 140)
  | some (s, j) => if j = L.length ∧ mayB s = true then (s, 0) else (St.zero, 140)
theorem st_key (L : List Int) : (stP L = none ∧ (stR L).2 = none) ∨ ∃ s j, stP L = some (s, j) ∧ stR L = (s, some j) := by
  unfold stP stR
  rcases (agree_num L 8 281474976710655).split 0 with ⟨h1, h2⟩ | ⟨a, k1, h1, h2⟩
  · left; simp only [h1, h2, Option.bind_none, (agree_num L 8 281474976710656).stop, (agree_num L 4 4096).stop, listR_none, (agree_num L 4 1048575).stop, true_and]
  rcases (agree_num L 8 281474976710656).split k1 with ⟨h3, h4⟩ | ⟨b, k2, h3, h4⟩
  · left; simp only [h1, h2, h3, h4, Option.bind_some, Option.bind_none, (agree_num L 4 4096).stop, listR_none, (agree_num L 4 1048575).stop, true_and]
  rcases (agree_num L 4 4096).split k2 with ⟨h5, h6⟩ | ⟨c, k3, h5, h6⟩
  · left; simp only [h1, h2, h3, h4, h5, h6, Option.bind_some, Option.bind_none, (agree_num L 4 4096).stop, listR_none, (agree_num L 4 1048575).stop, true_and]
  rcases (agree_num L 4 4096).split k3 with ⟨h7, h8⟩ | ⟨d, k4, h7, h8⟩
  · left; simp only [h1, h2, h3, h4, h5, h6, h7, h8, Option.bind_some, Option.bind_none, (agree_num L 4 4096).stop, listR_none, (agree_num L 4 1048575).stop, true_and]
  rcases (agree_num L 4 4096).split k4 with ⟨h9, h10⟩ | ⟨n, k5, h9, h10⟩
  · left; simp only [h1, h2, h3, h4, h5, h6, h7, h8, h9, h10, Option.bind_some, Option.bind_none, listR_none, (agree_num L 4 1048575).stop, true_and]
  rcases (agree_list (agree_block L) n.toNat).split k5 with ⟨g1, g2⟩ | ⟨bs, k6, g1, g2⟩
  · left; simp only [h1, h2, h3, h4, h5, h6, h7, h8, h9, h10, g1, g2, Option.bind_some, Option.bind_none, listR_none, (agree_num L 4 1048575).stop, true_and]
  rcases (agree_num L 4 1048575).split k6 with ⟨g3, g4⟩ | ⟨m, k7, g3, g4⟩
  · left; simp only [h1, h2, h3, h4, h5, h6, h7, h8, h9, h10, g1, g2, g3, g4, Option.bind_some, Option.bind_none, listR_none, true_and]
  rcases (agree_list (agree_obj L) m.toNat).split k7 with ⟨g5, g6⟩ | ⟨os, k8, g5, g6⟩
  · left; simp only [h1, h2, h3, h4, h5, h6, h7, h8, h9, h10, g1, g2, g3, g4, g5, g6, Option.bind_some, Option.map_none, true_and]
  · right; exact ⟨⟨a, b, c - 1, d - 1, bs, os⟩, k8, by simp only [h1, h3, h5, h7, h9, g1, g3, g5, Option.bind_some, Option.map_some], by simp only [h2, h4, h6, h8, h10, g2, g4, g6]⟩
theorem read_same (L : List Int) : readP L = readR L := by
  have key := st_key L
  unfold readP readR
  rcases key with ⟨h1, h2⟩ | ⟨s, j, h1, h2⟩
  · rw [h1, h2]
  · rw [h1, h2]
end Go.Proofs.YtefkklgelmbaiaaDoor
set_option linter.unusedSimpArgs false
set_option linter.unusedVariables false
namespace Go.Proofs.YtefkklgelmbaiaaDoor
open Go.RowKit Go.Proofs

theorem set_last {w : World} {g : Nat} {cs : Array Value} {t : TypeId} (H : w.heap[g]? = some (.cells cs t (0, 0))) (j : Nat) (v : Value) :
    (w.setCell ⟨g, j, none⟩ v).heap[g]? = some (.cells (cs.setIfInBounds j v) t (0, 0)) := by
  simp [World.setCell, Array.getElem?_modify, H]
theorem sets_grown {w w1 : World} {g : Nat} (h : w.grownBy w1 (some g)) (j : Nat) (v : Value) : w.grownBy (w1.setCell ⟨g, j, none⟩ v) (some g) := by
  have hb : Below g w1 (w1.setCell ⟨g, j, none⟩ v) := (Below.refl g w1).setCell (Nat.le_refl _) v
  exact grown_trans h ⟨hb.os, hb.tape, hb.output, hb.size, fun k hk hn => Below.heap_setCell w1 _ v k (fun e => hn (by rw [e]))⟩
section
variable {w : World} {g : Nat} {t : TypeId} {o0 o1 o2 o3 o4 o5 o6 o7 o8 o9 o10 o11 o12 : Value}
theorem set8at (H : w.heap[g]? = some (.cells #[o0, o1, o2, o3, o4, o5, o6, o7, o8, o9, o10, o11, o12] t (0, 0))) (v2 v3 v4 v5 v6 v7 v8 v9 : Value) :
    ∃ w', ((((((((w.setCell ⟨g, 2, none⟩ v2).setCell ⟨g, 3, none⟩ v3).setCell ⟨g, 4, none⟩ v4).setCell ⟨g, 5, none⟩ v5).setCell ⟨g, 6, none⟩ v6).setCell ⟨g, 7, none⟩ v7).setCell ⟨g, 8, none⟩ v8).setCell ⟨g, 9, none⟩ v9) = w' ∧ w.grownBy w' (some g) ∧ w'.heap[g]? = some (.cells #[o0, o1, v2, v3, v4, v5, v6, v7, v8, v9, o10, o11, o12] t (0, 0)) := by
  have h := set_last (set_last (set_last (set_last (set_last (set_last (set_last (set_last H 2 v2) 3 v3) 4 v4) 5 v5) 6 v6) 7 v7) 8 v8) 9 v9
  simp only [List.setIfInBounds_toArray, List.set_cons_zero, List.set_cons_succ] at h
  exact ⟨_, rfl, sets_grown (sets_grown (sets_grown (sets_grown (sets_grown (sets_grown (sets_grown (sets_grown (grown_refl w _) 2 v2) 3 v3) 4 v4) 5 v5) 6 v6) 7 v7) 8 v8) 9 v9, h⟩
theorem set2at (H : w.heap[g]? = some (.cells #[o0, o1, o2, o3, o4, o5, o6, o7, o8, o9, o10, o11, o12] t (0, 0))) (v10 v11 : Value) :
    ∃ w', ((w.setCell ⟨g, 10, none⟩ v10).setCell ⟨g, 11, none⟩ v11) = w' ∧ w.grownBy w' (some g) ∧ w'.heap[g]? = some (.cells #[o0, o1, o2, o3, o4, o5, o6, o7, o8, o9, v10, v11, o12] t (0, 0)) := by
  have h := set_last (set_last H 10 v10) 11 v11
  simp only [List.setIfInBounds_toArray, List.set_cons_zero, List.set_cons_succ] at h
  exact ⟨_, rfl, sets_grown (sets_grown (grown_refl w _) 10 v10) 11 v11, h⟩
theorem set13 (H : w.heap[g]? = some (.cells #[o0, o1, o2, o3, o4, o5, o6, o7, o8, o9, o10, o11, o12] t (0, 0))) (v0 v1 v2 v3 v4 v5 v6 v7 v8 v9 v10 v11 v12 : Value) :
    ∃ w', (((((((((((((w.setCell ⟨g, 0, none⟩ v0).setCell ⟨g, 1, none⟩ v1).setCell ⟨g, 2, none⟩ v2).setCell ⟨g, 3, none⟩ v3).setCell ⟨g, 4, none⟩ v4).setCell ⟨g, 5, none⟩ v5).setCell ⟨g, 6, none⟩ v6).setCell ⟨g, 7, none⟩ v7).setCell ⟨g, 8, none⟩ v8).setCell ⟨g, 9, none⟩ v9).setCell ⟨g, 10, none⟩ v10).setCell ⟨g, 11, none⟩ v11).setCell ⟨g, 12, none⟩ v12) = w' ∧ w.grownBy w' (some g) ∧ w'.heap[g]? = some (.cells #[v0, v1, v2, v3, v4, v5, v6, v7, v8, v9, v10, v11, v12] t (0, 0)) := by
  have h := set_last (set_last (set_last (set_last (set_last (set_last (set_last (set_last (set_last (set_last (set_last (set_last (set_last H 0 v0) 1 v1) 2 v2) 3 v3) 4 v4) 5 v5) 6 v6) 7 v7) 8 v8) 9 v9) 10 v10) 11 v11) 12 v12
  simp only [List.setIfInBounds_toArray, List.set_cons_zero, List.set_cons_succ] at h
  exact ⟨_, rfl, sets_grown (sets_grown (sets_grown (sets_grown (sets_grown (sets_grown (sets_grown (sets_grown (sets_grown (sets_grown (sets_grown (sets_grown (sets_grown (grown_refl w _) 0 v0) 1 v1) 2 v2) 3 v3) 4 v4) 5 v5) 6 v6) 7 v7) 8 v8) 9 v9) 10 v10) 11 v11) 12 v12, h⟩
end
theorem cflat_snoc (cs : List Chk) (x : Chk) : cflat (cs ++ [x]) = cflat cs ++ ccells x := by unfold cflat; simp
theorem own_grown {W W' : World} {base size n : Nat} {e : TypeId} {v : Value} {xs : List Value} (h : W.ownsRow base e size v n xs) {g : Nat} (q : W.grownBy W' (some g)) {cs : Array Value} {t : TypeId} (H : W.heap[g]? = some (.cells cs t (0, 0))) (ht : e ≠ t) : W'.ownsRow base e size v n xs :=
  World.ownsRow.kept h q (.inr (fun k => own_ne3 h H ht k.symm))

theorem own_keep {W W' : World} {base size n : Nat} {e : TypeId} {v : Value} {xs : List Value} (h : W.ownsRow base e size v n xs) {g : Nat} (q : W.grownBy W' (some g)) (hne : ∀ k, v.ownBlock = some k → k ≠ g) : W'.ownsRow base e size v n xs :=
  World.ownsRow.kept h q (.inr (fun k => hne g k rfl))
theorem grown_own {a b c : World} {r q : Option Nat} (h : a.grownBy b r) (k : b.grownBy c q) (hq : ∀ i, q = some i → a.heap.size ≤ i) : a.grownBy c r :=
  ⟨k.os.trans h.os, k.tape.trans h.tape, k.output.trans h.output, Nat.le_trans h.size k.size, fun i hi hn => (k.block i (Nat.lt_of_lt_of_le hi h.size) (fun e => by have := hq i e.symm; omega)).trans (h.block i hi hn)⟩
section
variable {w : World} {g : Nat} {t : TypeId} {o0 o1 o2 o3 : Value}
theorem set2of4 (H : w.heap[g]? = some (.cells #[o0, o1, o2, o3] t (0, 0))) (v1 v2 : Value) :
    ∃ w', ((w.setCell ⟨g, 1, none⟩ v1).setCell ⟨g, 2, none⟩ v2) = w' ∧ w.grownBy w' (some g) ∧ w'.heap[g]? = some (.cells #[o0, v1, v2, o3] t (0, 0)) := by
  have h := set_last (set_last H 1 v1) 2 v2
  simp only [List.setIfInBounds_toArray, List.set_cons_zero, List.set_cons_succ] at h
  exact ⟨_, rfl, sets_grown (sets_grown (grown_refl w _) 1 v1) 2 v2, h⟩
theorem set1of4 (H : w.heap[g]? = some (.cells #[o0, o1, o2, o3] t (0, 0))) (v3 : Value) :
    ∃ w', w.setCell ⟨g, 3, none⟩ v3 = w' ∧ w.grownBy w' (some g) ∧ w'.heap[g]? = some (.cells #[o0, o1, o2, v3] t (0, 0)) := by
  have h := set_last H 3 v3
  simp only [List.setIfInBounds_toArray, List.set_cons_zero, List.set_cons_succ] at h
  exact ⟨_, rfl, sets_grown (grown_refl w _) 3 v3, h⟩
end
theorem rb_ne {w : World} {g : Nat} {A : Option Addr} {c : Nat} {L : List Int} {o : Option Nat} (h : RR w g A c L o) {base size n : Nat} {e : TypeId} {v : Value} {xs : List Value} (O : w.ownsRow base e size v n xs) (he : e ≠ 68) : some g ≠ v.ownBlock := by
  obtain ⟨_, _, _, hb⟩ := h
  exact own_ne3 O hb he

set_option maxHeartbeats 25600000 in
set_option maxRecDepth 100000 in
theorem robj14_go (Q : Ending → World → Prop) (g : Nat) (A : Option Addr) (c : Nat) (L : List Int) (o : Option Nat) (w : World) (hw : Ok w) (H : RR w g A c L o) (hA : BytesAt w A L) (hgb : ∀ a, A = some a → a.block ≠ g) (hb : bytesOk L) (hc : L.length ≤ c) (hL : L.length ≤ 1073741824) (hg : 7 ≤ g) (HP : Hid (∀ e w', (∃ a d, e = Ending.returned (.agg ⟨ocells (objR L o).1 a d⟩) ∧ w.grownBy w' (some g) ∧ RR w' g A c L (objR L o).2 ∧ w'.ownsRow w.heap.size 59 4 (.slice a (objR L o).1.cs.length d) (objR L o).1.cs.length (cflat (objR L o).1.cs)) → Q e w')) :
    Calls Tryd.prog 24 #[.pointer (some ⟨g, 0, none⟩)] w Q := by
  obtain ⟨⟨id, o1⟩, e1⟩ : ∃ p, numR L 4 1048575 o = p := ⟨_, rfl⟩
  obtain ⟨⟨h, o2⟩, e2⟩ : ∃ p, numR L 1 1 o1 = p := ⟨_, rfl⟩
  obtain ⟨⟨⟨nd, pb, pp⟩, o3⟩, e3⟩ : ∃ p, partR L o1 = p := ⟨_, rfl⟩
  obtain ⟨⟨n, o4⟩, e4⟩ : ∃ p, numR L 4 65536 o3 = p := ⟨_, rfl⟩
  have hn := numR_le hb (show (0 : Int) ≤ 65536 by omega) 4 o3
  rw [e4] at hn
  dsimp only at hn
  obtain ⟨N, hN⟩ : ∃ N : Nat, n = (N : Int) := ⟨_, (Int.toNat_of_nonneg hn.1).symm⟩
  subst hN
  obtain ⟨⟨cs, o5⟩, e5⟩ : ∃ p, listR (chunkR L) N o4 = p := ⟨_, rfl⟩
  obtain ⟨bv, hbv⟩ : ∃ b, ((h : Int) == 1) = b := ⟨_, rfl⟩
  have hobj : objR L o = (⟨id, bv, nd, pb, pp, cs⟩, o5) := by
    rw [← hbv]
    simp only [objR, e1, e2, e3, e4, Int.toNat_natCast, e5]; rfl
  rw [hobj] at HP
  clear hobj
  obtain ⟨w2, g2, hg2, hw2, f2, hz2, H2⟩ := boxedN hw #[.int .i64 0, .bool false, .int .i64 0, .int .i64 0, .string ⟨#[]⟩, .int .i64 0, .int .i64 0, .int .u64 0, .int .i64 0, .string ⟨#[]⟩, .int .i64 0, .int .i64 0, .slice none 0 0] 53
  have hlt : g < w.heap.size := by obtain ⟨_, _, _, h⟩ := H; exact (Array.getElem?_eq_some_iff.1 h).1
  have hB2 : w.heap.size ≤ g2 := by omega
  have n2 : some g2 ≠ some g := by simp; omega
  have hgS : ∀ a, A = some a → some a.block ≠ some g := fun a e k => by injection k with k; exact hgb a e k
  have gr := fr_grown f2 (some g)
  have HR := H.fr f2
  have hNu := Lib.hid (fun (W : World) (gr : w.grownBy W (some g)) o HR s m h1 h2 => number_any g A c L o s m W (hw.grown hg gr) HR (hA.grown gr hgS) hgb hb h1 h2 hc hL hg)
  have hPl := Lib.hid (fun (W : World) (gr : w.grownBy W (some g)) o HR => place14_any g A c L o W (hw.grown hg gr) HR (hA.grown gr hgS) hgb hb hc hL hg)
  have hTk := Lib.hid (fun (W : World) (gr : w.grownBy W (some g)) o HR k h1 h2 => take_any g A c L o k W (hw.grown hg gr) HR (hA.grown gr hgS) hgb h1 h2 hc hL hg)
  have hRd := Lib.hid (fun (W : World) (gr : w.grownBy W (some g)) B d M hM hd hl hB => read08_any B d M hM hd hl W (hw.grown hg gr) hB)
  have hBx := Lib.hid (fun (W : World) (gr : w.grownBy W (some g)) cs t => boxedN (hw.grown hg gr) cs t)
  have E1 := Lib.hid e1
  have E2 := Lib.hid e2
  have E3 := Lib.hid e3
  have E4 := Lib.hid e4
  have E5 := Lib.hid e5
  have HBy := Lib.hid hb
  obtain ⟨iC, hiC, hzC, hsC, hyC⟩ := info_parts infoChunk
  have Hbv := Lib.hid hbv
  clear e1 e2 e3 e4 e5 f2 H hz2 hA hc hb hbv
  have tok0 : True := trivial
  go_enter Tryd.func24, Tryd.ntmps24
  go_upto_if 17 with (first
    | (go_at_call 23; have _t := tok0; (have ct := hNu.out _ gr _ HR 4 1048575 (by omega) (by omega)); rw [E1.out] at ct; refine ct.mono ?_; clear ct; rintro e wa ⟨rfl, q, HRa⟩; replace gr := grown_trans gr q; replace H2 := grown_blk' q H2 n2; clear q tok0 HR; obtain ⟨w3, g3, hg3, hw3, f3, hz3, H3⟩ := hBx.out _ gr #[.int .i64 id, .bool false, .int .i64 0, .int .i64 0, .string ⟨#[]⟩, .int .i64 0, .int .i64 0, .int .u64 0, .int .i64 0, .string ⟨#[]⟩, .int .i64 0, .int .i64 0, .slice none 0 0] 53; have hB3 : w.heap.size ≤ g3 := (by have := gr.size; omega); have n3 : some g3 ≠ some g := (by simp; omega); have n32 : some g3 ≠ some g2 := (by have := (Array.getElem?_eq_some_iff.1 H2).1; simp; omega); replace gr := grown_fr gr f3; replace H2 := f3.heap H2; have HR := HRa.fr f3; clear f3 hz3 HRa; obtain ⟨c0, c1, c2, c3, c4, c5, c6, c7, c8, c9, c10, c11, c12⟩ := blk13 H3; have z0 := unfroz H3 0; have z1 := unfroz H3 1; have z2 := unfroz H3 2; have z3 := unfroz H3 3; have z4 := unfroz H3 4; have z5 := unfroz H3 5; have z6 := unfroz H3 6; have z7 := unfroz H3 7; have z8 := unfroz H3 8; have z9 := unfroz H3 9; have z10 := unfroz H3 10; have z11 := unfroz H3 11; have z12 := unfroz H3 12; have i1 := idemC H3 c1; have i2 := idemC H3 c2; have i3 := idemC H3 c3; have i4 := idemC H3 c4; have i5 := idemC H3 c5; have i6 := idemC H3 c6; have i7 := idemC H3 c7; have i8 := idemC H3 c8; have i9 := idemC H3 c9; have i10 := idemC H3 c10; have i11 := idemC H3 c11; have i12 := idemC H3 c12; have tok1 : True := trivial)
    | (go_at_call 23; have _t := tok1; (have ct := hNu.out _ gr _ HR 1 1 (by omega) (by omega)); rw [E2.out] at ct; refine ct.mono ?_; clear ct; rintro e wb ⟨rfl, q, HRa⟩; replace gr := grown_trans gr q; replace H2 := grown_blk' q H2 n2; replace H3 := grown_blk' q H3 n3; clear q tok1 HR; clear c0 c1 c2 c3 c4 c5 c6 c7 c8 c9 c10 c11 c12 z0 z1 z2 z3 z4 z5 z6 z7 z8 z9 z10 z11 z12; clear i1 i2 i3 i4 i5 i6 i7 i8 i9 i10 i11 i12; have hbv := Hbv.out; have k1 := (blk13 H3).2.1; have z1 := unfroz H3 1; obtain ⟨wd, hwd, H3d, q⟩ := set_grown H3 1 (.bool bv); simp only [List.setIfInBounds_toArray, List.set_cons_zero, List.set_cons_succ] at H3d; replace gr := grown_new gr q hB3; replace H2 := grown_blk' q H2 n32.symm; have HR := HRa.grown q n3.symm; replace H3 := H3d; have k1 := (blk13 H3).2.1; clear H3d HRa q))
  go_cut [] (fun wc => wc.heap[g2]? = some (.cells #[.int .i64 0, .bool false, .int .i64 0, .int .i64 0, .string ⟨#[]⟩, .int .i64 0, .int .i64 0, .int .u64 0, .int .i64 0, .string ⟨#[]⟩, .int .i64 0, .int .i64 0, .slice none 0 0] 53 (0, 0)) ∧ wc.heap[g3]? = some (.cells #[.int .i64 id, .bool bv, .int .i64 nd.ty, .int .i64 nd.par, .string nd.name, .int .i64 nd.size, .int .i64 nd.mode, .int .u64 nd.stamp, .int .i64 nd.shadow, .string nd.tgt, .int .i64 pb, .int .i64 pp, .slice none 0 0] 53 (0, 0)) ∧ w.grownBy wc (some g) ∧ RR wc g A c L o3)
  case first =>
    clear hbv z1 k1 hwd hw3 hw2
    cases bv with
    | false =>
      have h3 : ¬ h = 1 := by simpa using Hbv.out
      have e3 := E3.out
      simp only [partR, E2.out, if_neg h3, Prod.mk.injEq] at e3
      obtain ⟨⟨rfl, rfl, rfl⟩, rfl⟩ := e3
      have HF := Lib.hid (And.intro H2 (And.intro H3 (And.intro gr HR)))
      clear H2 H3 gr HR h3
      go_wp2_with fail
      go_meet
      exact HF.out
    | true =>
      have h3 : h = 1 := by simpa using Hbv.out
      have e3 := E3.out
      obtain ⟨⟨k, o21⟩, f1⟩ : ∃ p, numR L 1 255 o2 = p := ⟨_, rfl⟩
      have hk := numR_le HBy.out (show (0 : Int) ≤ 255 by omega) 1 o2
      rw [f1] at hk
      dsimp only at hk
      obtain ⟨kn, hkn⟩ : ∃ kn : Nat, k = (kn : Int) := ⟨_, (Int.toNat_of_nonneg hk.1).symm⟩
      subst hkn
      obtain ⟨⟨bs, o22⟩, f2⟩ : ∃ p, takeR L kn o21 = p := ⟨_, rfl⟩
      obtain ⟨⟨nd', er⟩, f3⟩ : ∃ p, readNL bs = p := ⟨_, rfl⟩
      obtain ⟨o23, f4⟩ : ∃ o, (if er = 0 then o22 else none) = o := ⟨_, rfl⟩
      simp only [partR, E2.out, if_pos h3, headR, bodyR, f1, Int.toNat_natCast, f2, f3, f4, Prod.mk.injEq] at e3
      obtain ⟨⟨hnd, hpb, hpp⟩, ho3⟩ := e3
      subst hnd
      have F5 : Hid (placeR L o23 = ((pb, pp), o3)) := Lib.hid (by rw [← hpb, ← hpp, ← ho3])
      have hbs := takeR_ok HBy.out kn o21
      rw [f2] at hbs
      dsimp only at hbs
      have hbs2 : bs.length ≤ 1073741824 := by omega
      have hbs1 := Lib.hid hbs.1
      have h21 : Hid (L = [] → o21 = none) := Lib.hid (fun e => by have := numR_nil e (show 1 ≤ 1 by omega) 255 o2; rw [f1] at this; exact this)
      have F1 := Lib.hid f1
      have F2 := Lib.hid f2
      have F3 := Lib.hid f3
      have F4 := Lib.hid f4
      clear f1 f2 f3 f4 hpb hpp ho3 h3 hbs
      have tok2 : True := trivial
      go_upto_region 5 with (first
        | (go_at_call 23; have _t := tok2; (have ct := hNu.out _ gr _ HR 1 255 (by omega) (by omega)); rw [F1.out] at ct; refine ct.mono ?_; clear ct; rintro e wa ⟨rfl, q, HRa⟩; replace gr := grown_trans gr q; replace H2 := grown_blk' q H2 n2; replace H3 := grown_blk' q H3 n3; clear q HR; have HR := HRa; clear HRa)
        | (go_at_call 39; (have ct := hTk.out _ gr _ HR kn (by omega) h21.out); rw [F2.out] at ct; refine ct.mono ?_; clear ct; rintro e wb ⟨B, d, rfl, hd, hB, q, HRa⟩; replace gr := grown_trans gr q; replace H2 := grown_blk' q H2 n2; replace H3 := grown_blk' q H3 n3; clear q HR; have HR := HRa; clear HRa)
        | (go_at_call 40; (have ct := hRd.out _ gr B d bs hbs1.out hd hbs2 hB); rw [F3.out] at ct; refine ct.mono ?_; clear ct hB; rintro e wd ⟨rfl, q⟩; replace gr := grown_fr gr q; replace H2 := q.heap H2; replace H3 := q.heap H3; replace HR := HR.fr q; clear q; obtain ⟨w4, g4, hg4, hw4, f4, hz4, H4⟩ := hBx.out _ gr #[.int .i64 nd'.ty, .int .i64 nd'.par, .string nd'.name, .int .i64 nd'.size, .int .i64 nd'.mode, .int .u64 nd'.stamp, .int .i64 nd'.shadow, .string nd'.tgt] 48; have hB4 : w.heap.size ≤ g4 := (by have := gr.size; omega); have n4 : some g4 ≠ some g := (by simp; omega); have n43 : some g4 ≠ some g3 := (by have := (Array.getElem?_eq_some_iff.1 H3).1; simp; omega); replace gr := grown_fr gr f4; replace H2 := f4.heap H2; replace H3 := f4.heap H3; replace HR := HR.fr f4; clear f4 hz4))
      go_cut [] (fun wc => wc.heap[g2]? = some (.cells #[.int .i64 0, .bool false, .int .i64 0, .int .i64 0, .string ⟨#[]⟩, .int .i64 0, .int .i64 0, .int .u64 0, .int .i64 0, .string ⟨#[]⟩, .int .i64 0, .int .i64 0, .slice none 0 0] 53 (0, 0)) ∧ wc.heap[g3]? = some (.cells #[.int .i64 id, .bool true, .int .i64 0, .int .i64 0, .string ⟨#[]⟩, .int .i64 0, .int .i64 0, .int .u64 0, .int .i64 0, .string ⟨#[]⟩, .int .i64 0, .int .i64 0, .slice none 0 0] 53 (0, 0)) ∧ wc.heap[g4]? = some (.cells #[.int .i64 nd'.ty, .int .i64 nd'.par, .string nd'.name, .int .i64 nd'.size, .int .i64 nd'.mode, .int .u64 nd'.stamp, .int .i64 nd'.shadow, .string nd'.tgt] 48 (0, 0)) ∧ w.grownBy wc (some g) ∧ RR wc g A c L o23)
      case first =>
        obtain ⟨i, hi, hoi, HB⟩ := HR
        unfold RB at HB
        have HF := Lib.hid (And.intro H2 (And.intro H3 (And.intro H4 gr)))
        clear H2 H3 H4 gr
        cases o22 with
        | none =>
          have ho : o23 = none := by have := F4.out; split at this <;> exact this.symm
          subst ho
          simp only [Option.isSome_none] at HB
          obtain ⟨r0, r1, r2⟩ := blk3 HB
          have z2 := unfroz HB 2
          obtain ⟨wy, hwy, HY, q⟩ := set_grown HB 2 (.bool false)
          simp only [List.setIfInBounds_toArray, List.set_cons_zero, List.set_cons_succ] at HY
          have HF2 := Lib.hid (And.intro q HY)
          clear q HY HB hoi
          go_wp2_with fail
          go_meet
          exact ⟨grown_blk' HF2.out.1 HF.out.1 n2, grown_blk' HF2.out.1 HF.out.2.1 n3, grown_blk' HF2.out.1 HF.out.2.2.1 n4, grown_trans HF.out.2.2.2 HF2.out.1, i, hi, fun j e => (by cases e), HF2.out.2⟩
        | some j =>
          obtain rfl := hoi j rfl
          simp only [Option.isSome_some] at HB
          obtain ⟨r0, r1, r2⟩ := blk3 HB
          have z2 := unfroz HB 2
          by_cases her : er = 0
          · have ho : o23 = some i := by have := F4.out; rw [if_pos her] at this; exact this.symm
            subst ho
            have d1 : ((er : Int) == 0) = true := by simpa using her
            obtain ⟨wy, hwy, HY, q⟩ := set_grown HB 2 (.bool true)
            simp only [List.setIfInBounds_toArray, List.set_cons_zero, List.set_cons_succ] at HY
            have HF2 := Lib.hid (And.intro q HY)
            clear q HY HB hoi her
            go_wp2_with fail
            go_meet
            exact ⟨grown_blk' HF2.out.1 HF.out.1 n2, grown_blk' HF2.out.1 HF.out.2.1 n3, grown_blk' HF2.out.1 HF.out.2.2.1 n4, grown_trans HF.out.2.2.2 HF2.out.1, i, hi, fun j e => (by injection e), HF2.out.2⟩
          · have ho : o23 = none := by have := F4.out; rw [if_neg her] at this; exact this.symm
            subst ho
            have d1 : ((er : Int) == 0) = false := by simpa using her
            obtain ⟨wy, hwy, HY, q⟩ := set_grown HB 2 (.bool false)
            simp only [List.setIfInBounds_toArray, List.set_cons_zero, List.set_cons_succ] at HY
            have HF2 := Lib.hid (And.intro q HY)
            clear q HY HB hoi her
            go_wp2_with fail
            go_meet
            exact ⟨grown_blk' HF2.out.1 HF.out.1 n2, grown_blk' HF2.out.1 HF.out.2.1 n3, grown_blk' HF2.out.1 HF.out.2.2.1 n4, grown_trans HF.out.2.2.2 HF2.out.1, i, hi, fun j e => (by cases e), HF2.out.2⟩
      case rest =>
        obtain ⟨H2, H3, H4, gr, HR⟩ := hcut
        obtain ⟨m0, m1, m2, m3, m4, m5, m6, m7⟩ := blk8 H4
        obtain ⟨c0, c1, c2, c3, c4, c5, c6, c7, c8, c9, c10, c11, c12⟩ := blk13 H3
        have z0 := unfroz H3 0; have z1 := unfroz H3 1; have z2 := unfroz H3 2; have z3 := unfroz H3 3; have z4 := unfroz H3 4; have z5 := unfroz H3 5; have z6 := unfroz H3 6; have z7 := unfroz H3 7; have z8 := unfroz H3 8; have z9 := unfroz H3 9; have z10 := unfroz H3 10; have z11 := unfroz H3 11; have z12 := unfroz H3 12
        obtain ⟨w5, hw5, q5, H35⟩ := set8at H3 (.int .i64 nd'.ty) (.int .i64 nd'.par) (.string nd'.name) (.int .i64 nd'.size) (.int .i64 nd'.mode) (.int .u64 nd'.stamp) (.int .i64 nd'.shadow) (.string nd'.tgt)
        replace gr := grown_new gr q5 hB3
        replace H2 := grown_blk' q5 H2 n32.symm
        replace HR := HR.grown q5 n3.symm
        replace H3 := H35
        clear q5 H35 H4
        go_wp2_with (go_at_call 41; (have ct := hPl.out _ gr _ HR); rw [F5.out] at ct; refine ct.mono ?_; clear ct; rintro e w6 ⟨rfl, q, HRa⟩; replace gr := grown_trans gr q; replace H2 := grown_blk' q H2 n2; replace H3 := grown_blk' q H3 n3; clear q HR c0 c1 c2 c3 c4 c5 c6 c7 c8 c9 c10 c11 c12 z0 z1 z2 z3 z4 z5 z6 z7 z8 z9 z10 z11 z12; obtain ⟨c0, c1, c2, c3, c4, c5, c6, c7, c8, c9, c10, c11, c12⟩ := blk13 H3; have z0 := unfroz H3 0; have z1 := unfroz H3 1; have z2 := unfroz H3 2; have z3 := unfroz H3 3; have z4 := unfroz H3 4; have z5 := unfroz H3 5; have z6 := unfroz H3 6; have z7 := unfroz H3 7; have z8 := unfroz H3 8; have z9 := unfroz H3 9; have z10 := unfroz H3 10; have z11 := unfroz H3 11; have z12 := unfroz H3 12; obtain ⟨w7, hw7, q7, H37⟩ := set2at H3 (.int .i64 pb) (.int .i64 pp); replace gr := grown_new gr q7 hB3; replace H2 := grown_blk' q7 H2 n32.symm; have HR := HRa.grown q7 n3.symm; replace H3 := H37; (have HF := Lib.hid (And.intro H2 (And.intro H3 (And.intro gr HR)))); clear q7 H37 HRa H2 H3 gr HR)
        go_meet
        exact HF.out
  case rest =>
    obtain ⟨H2, H3, gr, HR⟩ := hcut
    clear hbv z1 k1 hwd hw3 hw2
    go_upto_block 0 with (go_at_call 23; (have ct := hNu.out _ gr _ HR 4 65536 (by omega) (by omega)); rw [E4.out] at ct; refine ct.mono ?_; clear ct; rintro e wd ⟨rfl, q, HRa⟩; replace gr := grown_trans gr q; replace H2 := grown_blk' q H2 n2; replace H3 := grown_blk' q H3 n3; clear q HR)
    go_wp2_with fail
    go_loopg [7] N (fun k v7 wc => ∃ (i : Nat) (done : List Chk) (a : Option Addr) (d : Nat) (oi : Option Nat), i + k = N ∧ done.length = i ∧ v7 = .int .i64 (i : Int) ∧ Hid (listR (chunkR L) N o4 = (done ++ (listR (chunkR L) k oi).1, (listR (chunkR L) k oi).2)) ∧
      Hid (wc.heap[g2]? = some (.cells #[.int .i64 0, .bool false, .int .i64 0, .int .i64 0, .string ⟨#[]⟩, .int .i64 0, .int .i64 0, .int .u64 0, .int .i64 0, .string ⟨#[]⟩, .int .i64 0, .int .i64 0, .slice none 0 0] 53 (0, 0))) ∧ Hid (wc.heap[g3]? = some (.cells #[.int .i64 id, .bool bv, .int .i64 nd.ty, .int .i64 nd.par, .string nd.name, .int .i64 nd.size, .int .i64 nd.mode, .int .u64 nd.stamp, .int .i64 nd.shadow, .string nd.tgt, .int .i64 pb, .int .i64 pp, .slice a i d] 53 (0, 0))) ∧
      Hid (w.grownBy wc (some g)) ∧ Hid (RR wc g A c L oi) ∧ Hid (wc.ownsRow w.heap.size 59 4 (.slice a i d) i (cflat done)))
    case atStart => exact ⟨0, [], none, 0, o4, by omega, rfl, rfl, Lib.hid (by simp), Lib.hid H2, Lib.hid H3, Lib.hid gr, Lib.hid HRa, Lib.hid ⟨by simp [cflat], .inl ⟨rfl, rfl⟩⟩⟩
    case round =>
      clear H2 H3 gr HRa
      obtain ⟨i, done, a, d, oi, hik, hdl, rfl, HL, H2, H3, gr, HR, O⟩ := hrel
      replace H2 := H2.out
      replace H3 := H3.out
      replace gr := gr.out
      replace HR := HR.out
      replace O := O.out
      have HD := Lib.hid hdl
      clear hdl
      by_cases hend : gk = 0 ∨ oi = none
      · have hl : (listR (chunkR L) gk oi) = ([], oi) := by
          rcases hend with h0 | h0
          · subst h0; rfl
          · subst h0; exact listR_none _ _
        have hl2 := HL.out
        rw [hl, E5.out] at hl2
        simp only [List.append_nil, Prod.mk.injEq] at hl2
        have HC := Lib.hid hl2
        clear hl hl2 HL
        obtain ⟨w9, hw9, q9, H29⟩ := set13 H2 (.int .i64 id) (.bool bv) (.int .i64 nd.ty) (.int .i64 nd.par) (.string nd.name) (.int .i64 nd.size) (.int .i64 nd.mode) (.int .u64 nd.stamp) (.int .i64 nd.shadow) (.string nd.tgt) (.int .i64 pb) (.int .i64 pp) (.slice a i d)
        have HE : Hid (∃ a d, Ending.returned (.agg ⟨ocells ⟨id, bv, nd, pb, pp, cs⟩ a d⟩) = Ending.returned (.agg ⟨ocells ⟨id, bv, nd, pb, pp, cs⟩ a d⟩) ∧ True) := Lib.hid ⟨a, d, rfl, trivial⟩
        have HF := Lib.hid (And.intro (grown_new gr q9 hB2) (And.intro (HR.grown q9 n2.symm) (own_grown O q9 H2 (by decide))))
        have H29' := Lib.hid H29
        have z0 := unfroz H2 0; have z1 := unfroz H2 1; have z2 := unfroz H2 2; have z3 := unfroz H2 3; have z4 := unfroz H2 4; have z5 := unfroz H2 5; have z6 := unfroz H2 6; have z7 := unfroz H2 7; have z8 := unfroz H2 8; have z9 := unfroz H2 9; have z10 := unfroz H2 10; have z11 := unfroz H2 11; have z12 := unfroz H2 12
        obtain ⟨y0, y1, y2, y3, y4, y5, y6, y7, y8, y9, y10, y11, y12⟩ := blk13 H3
        obtain ⟨c0, c1, c2, c3, c4, c5, c6, c7, c8, c9, c10, c11, c12⟩ := blk13 H2
        obtain ⟨j, hj, hoj, HB⟩ := HR
        unfold RB at HB
        obtain ⟨r0, r1, r2⟩ := blk3 HB
        clear HB q9 H29 O gr H2 H3 HE hoj
        have hcs : Hid (done.length = i) := HD
        rcases hend with h0 | h0
        · subst h0
          have d1 : decide ((i : Int) < (N : Int)) = false := decide_eq_false (by omega)
          go_wp2
          refine bodyPost_ret (results_cell_row rfl _ _ g2 53 _ (0, 0) _ rfl H29'.out Tryd.underlying53 rfl (by kernel_rfl)) rfl ?_
          obtain ⟨hc1, hc2⟩ := HC.out
          subst hc1 hc2
          exact HP.out _ _ ⟨a, d, (by simp only [ocells]; rw [HD.out]), HF.out.1, HF.out.2.1, (by rw [HD.out]; exact HF.out.2.2)⟩
        · subst h0
          simp only [Option.isSome_none] at r2
          by_cases hlt2 : i < N
          · have d1 : decide ((i : Int) < (N : Int)) = true := decide_eq_true (by omega)
            go_wp2
            refine bodyPost_ret (results_cell_row rfl _ _ g2 53 _ (0, 0) _ rfl H29'.out Tryd.underlying53 rfl (by kernel_rfl)) rfl ?_
            obtain ⟨hc1, hc2⟩ := HC.out
            subst hc1 hc2
            exact HP.out _ _ ⟨a, d, (by simp only [ocells]; rw [HD.out]), HF.out.1, HF.out.2.1, (by rw [HD.out]; exact HF.out.2.2)⟩
          · have d1 : decide ((i : Int) < (N : Int)) = false := decide_eq_false (by omega)
            go_wp2
            refine bodyPost_ret (results_cell_row rfl _ _ g2 53 _ (0, 0) _ rfl H29'.out Tryd.underlying53 rfl (by kernel_rfl)) rfl ?_
            obtain ⟨hc1, hc2⟩ := HC.out
            subst hc1 hc2
            exact HP.out _ _ ⟨a, d, (by simp only [ocells]; rw [HD.out]), HF.out.1, HF.out.2.1, (by rw [HD.out]; exact HF.out.2.2)⟩
      · obtain ⟨k, rfl⟩ : ∃ k, gk = k + 1 := ⟨gk - 1, by omega⟩
        obtain ⟨jj, rfl⟩ : ∃ jj, oi = some jj := by cases oi with
          | none => exact absurd (.inr rfl) hend
          | some jj => exact ⟨jj, rfl⟩
        clear hend
        obtain ⟨⟨x, p1⟩, b1⟩ : ∃ p, numR L 4 1048575 (some jj) = p := ⟨_, rfl⟩
        obtain ⟨⟨⟨y, z⟩, p2⟩, b2⟩ : ∃ p, placeR L p1 = p := ⟨_, rfl⟩
        obtain ⟨⟨u, p3⟩, b3⟩ : ∃ p, numR L 2 2048 p2 = p := ⟨_, rfl⟩
        have hch : chunkR L (some jj) = (⟨x, y, z, u⟩, p3) := by simp only [chunkR, b1, b2, b3]
        have HL2 : Hid (listR (chunkR L) N o4 = ((done ++ [(⟨x, y, z, u⟩ : Chk)]) ++ (listR (chunkR L) k p3).1, (listR (chunkR L) k p3).2)) := Lib.hid (by rw [HL.out]; simp only [listR, hch, List.append_assoc, List.singleton_append])
        have B1 := Lib.hid b1
        have B2 := Lib.hid b2
        have B3 := Lib.hid b3
        clear b1 b2 b3 hch HL
        have d1 : decide ((i : Int) < (N : Int)) = true := decide_eq_true (by omega)
        have hob : Hid (∀ q, (Value.slice a i d).ownBlock = some q → q < wr.heap.size) := Lib.hid (fun q hq => (World.ownsRow.lt O q hq).2)
        have r2 : wr.cell? ⟨g, 2, none⟩ = some (.bool true) := by
          obtain ⟨j, hj, hoj, HB⟩ := HR
          exact (blk3 HB).2.2
        have hsw := gr.size
        have tok3 : True := trivial
        go_wp2_with (first
          | (go_at_call 23; have _t := tok3; (have ct := hNu.out _ gr _ HR 4 1048575 (by omega) (by omega)); rw [B1.out] at ct; refine ct.mono ?_; clear ct; rintro e wa ⟨rfl, q, HRa⟩; have hsz := q.size; replace O := own_keep O q (fun k hk e => by subst e; exact rb_ne HR O (by decide) hk.symm); replace gr := grown_trans gr q; replace H2 := grown_blk' q H2 n2; replace H3 := grown_blk' q H3 n3; clear q tok3 HR r2; obtain ⟨w8, g8, hg8, hw8, f8, hz8, H8⟩ := hBx.out _ gr #[.int .i64 x, .int .i64 0, .int .i64 0, .int .i64 0] 59; have hB8 : w.heap.size ≤ g8 := (by omega); have hB8' : wr.heap.size ≤ g8 := (by omega); have n8 : some g8 ≠ some g := (by simp; omega); have n82 : some g8 ≠ some g2 := (by have := (Array.getElem?_eq_some_iff.1 H2).1; simp; omega); have n83 : some g8 ≠ some g3 := (by have := (Array.getElem?_eq_some_iff.1 H3).1; simp; omega); replace gr := grown_fr gr f8; replace H2 := f8.heap H2; replace H3 := f8.heap H3; replace O := own_fr O f8; have HR := HRa.fr f8; clear f8 hz8 HRa hsz; obtain ⟨k0, k1, k2, k3⟩ := blk4 H8; have z1 := unfroz H8 1; have z2 := unfroz H8 2; have z3 := unfroz H8 3; have i1 := idemC H8 k1; have i2 := idemC H8 k2; have i3 := idemC H8 k3; have tok4 : True := trivial)
          | (go_at_call 41; (have ct := hPl.out _ gr _ HR); rw [B2.out] at ct; refine ct.mono ?_; clear ct; rintro e wb ⟨rfl, q, HRa⟩; replace O := own_keep O q (fun k hk e => by subst e; exact rb_ne HR O (by decide) hk.symm); replace gr := grown_trans gr q; replace H2 := grown_blk' q H2 n2; replace H3 := grown_blk' q H3 n3; replace H8 := grown_blk' q H8 n8; clear q HR k0 k1 k2 k3 z1 z2 z3 i1 i2 i3; obtain ⟨k0, k1, k2, k3⟩ := blk4 H8; have z1 := unfroz H8 1; have z2 := unfroz H8 2; obtain ⟨w9, hw9, q9, H89⟩ := set2of4 H8 (.int .i64 y) (.int .i64 z); replace gr := grown_new gr q9 hB8; replace O := own_keep O q9 (fun k hk => by have := hob.out k hk; omega); replace H2 := grown_blk' q9 H2 n82.symm; replace H3 := grown_blk' q9 H3 n83.symm; have HR := HRa.grown q9 n8.symm; replace H8 := H89; clear q9 H89 HRa)
          | (go_at_call 23; have _t := tok4; (have ct := hNu.out _ gr _ HR 2 2048 (by omega) (by omega)); rw [B3.out] at ct; refine ct.mono ?_; clear ct; rintro e wd ⟨rfl, q, HRa⟩; replace O := own_keep O q (fun k hk e => by subst e; exact rb_ne HR O (by decide) hk.symm); replace gr := grown_trans gr q; replace H2 := grown_blk' q H2 n2; replace H3 := grown_blk' q H3 n3; replace H8 := grown_blk' q H8 n8; clear q HR k0 k1 k2 k3 z1 z2; have j3 := (blk4 H8).2.2.2; have z3 := unfroz H8 3; obtain ⟨w10, hw10, q10, H80⟩ := set1of4 H8 (.int .i64 u); replace gr := grown_new gr q10 hB8; replace O := own_keep O q10 (fun k hk => by have := hob.out k hk; omega); replace H2 := grown_blk' q10 H2 n82.symm; replace H3 := grown_blk' q10 H3 n83.symm; have HR := HRa.grown q10 n8.symm; replace H8 := H80; clear q10 H80 HRa; obtain ⟨k0, k1, k2, k3⟩ := blk4 H8; have k12 := (blk13 H3).2.2.2.2.2.2.2.2.2.2.2.2; obtain ⟨w11, g11, hg11, hw11, f11, hz11, H11⟩ := hBx.out _ gr #[.int .i64 x, .int .i64 y, .int .i64 z, .int .i64 u] 59; replace gr := grown_fr gr f11; replace H2 := f11.heap H2; replace H3 := f11.heap H3; replace O := own_fr O f11; replace HR := HR.fr f11; clear f11; obtain ⟨v12, w12, hap, O12, q12, _⟩ := append_src Tryd.underlying51 hiC hzC hsC hyC rfl (by decide) 51 O (some ⟨g11, 0, none⟩) 1 1 _ (Src.lit H11 1 1) (by simp) (by simp [Value.oneCell']) (by unfold maxLen; omega) (by omega) gr.size; have m2 := own_ne3 O H2 (by decide); have m3 := own_ne3 O H3 (by decide); have mR := rb_ne HR O (by decide); replace H2 := grown_blk' q12 H2 m2; replace H3 := grown_blk' q12 H3 m3; replace HR := HR.grown q12 mR; replace gr := grown_own gr q12 (fun k hk => (World.ownsRow.lt O k hk).1); clear O H11 m2 m3 mR q12; obtain ⟨a2, d2, rfl⟩ := own_form O12; have z12 := unfroz H3 12; have y12 := (blk13 H3).2.2.2.2.2.2.2.2.2.2.2.2; obtain ⟨w13, hw13, H313, q13⟩ := set_grown H3 12 (.slice a2 (i + 1) d2); simp only [List.setIfInBounds_toArray, List.set_cons_zero, List.set_cons_succ] at H313; replace O12 := own_grown O12 q13 H3 (by decide); replace gr := grown_new gr q13 hB3; replace H2 := grown_blk' q13 H2 n32.symm; replace HR := HR.grown q13 n3.symm; (have HF := Lib.hid (And.intro H2 (And.intro H313 (And.intro gr (And.intro HR O12))))); clear H2 H3 H313 gr HR O12 q13)
          | (at_builtin; refine wpList_append_run rfl _ _ 51 51 rfl (by simp [Act.eval]) (by simp [Act.eval]) hap ?_))
        go_roundg k
        case measure => omega
        case rel => exact ⟨i + 1, done ++ [⟨x, y, z, u⟩], a2, d2, p3, by omega, by rw [List.length_append, HD.out]; rfl, by simp, HL2, Lib.hid HF.out.1, Lib.hid HF.out.2.1, Lib.hid HF.out.2.2.1, Lib.hid HF.out.2.2.2.1, Lib.hid (by rw [cflat_snoc]; exact HF.out.2.2.2.2)⟩
end Go.Proofs.YtefkklgelmbaiaaDoor
set_option linter.unusedSimpArgs false
set_option linter.unusedVariables false
namespace Go.Proofs.YtefkklgelmbaiaaDoor
open Go.RowKit Go.Proofs

theorem listR_all {α : Type} {f : Option Nat → α × Option Nat} {P : α → Prop} (h : ∀ o, P (f o).1) (n : Nat) (o : Option Nat) : (∀ x ∈ (listR f n o).1, P x) ∧ (listR f n o).1.length ≤ n := by
  induction n generalizing o with
  | zero => exact ⟨fun x hx => by simp [listR] at hx, by simp [listR]⟩
  | succ n ih =>
    cases o with
    | none => exact ⟨fun x hx => by simp [listR] at hx, by simp [listR]⟩
    | some i =>
      simp only [listR, List.mem_cons, List.length_cons]
      refine ⟨fun x hx => ?_, by have := (ih (f (some i)).2).2; omega⟩
      rcases hx with rfl | hx
      · exact h _
      · exact (ih _).1 x hx
section
variable {L : List Int} (hb : bytesOk L) (hL : L.length ≤ 1073741824)
include hb
theorem num_rg {m : Int} (h0 : 0 ≤ m) (hm : m ≤ 281474976710656) (s : Nat) (o : Option Nat) : I64 (numR L s m o).1 ∧ U64 (numR L s m o).1 := by
  have := numR_le hb h0 s o
  exact ⟨⟨by omega, by omega⟩, ⟨by omega, by omega⟩⟩
theorem chunk_rg (o : Option Nat) : (chunkR L o).1.wf :=
  ⟨(num_rg hb (by omega) (by omega) 4 _).1, (num_rg hb (by omega) (by omega) 2 _).1, (num_rg hb (by omega) (by omega) 2 _).1, (num_rg hb (by omega) (by omega) 2 _).1⟩
theorem block_rg (o : Option Nat) : (blockR L o).1.wf :=
  ⟨(num_rg hb (by omega) (by omega) 1 _).1, (num_rg hb (by omega) (by omega) 6 _).2, (num_rg hb (by omega) (by omega) 2 _).1⟩
omit hb in
theorem nod_zero_wf : Nod.zero.wf ∧ Nod.zero.name.size ≤ 1073741824 := by
  simp [Nod.wf, Nod.zero, I64, U64, ByteArray.size]
omit hb in
theorem readNL_wf {M : List Int} (hM : bytesOk M) (hL : M.length ≤ 1073741824) : (readNL M).1.wf ∧ (readNL M).1.name.size ≤ 1073741824 := by
  unfold readNL
  split
  · exact nod_zero_wf
  · split
    · exact nod_zero_wf
    · split
      · exact nod_zero_wf
      · split
        · exact nodeOf_wf hM hL _
        · exact nod_zero_wf
include hL
theorem obj_rg (o : Option Nat) : (objR L o).1.wf ∧ (objR L o).1.nd.name.size ≤ 1073741824 ∧ (objR L o).1.cs.length ≤ 65536 := by
  have hp : ∀ o, ((partR L o).1.1.wf ∧ (partR L o).1.1.name.size ≤ 1073741824) ∧ I64 (partR L o).1.2.1 ∧ I64 (partR L o).1.2.2 := by
    intro o
    unfold partR
    split
    · have ht := takeR_ok hb (numR L 1 255 (numR L 1 1 o).2).1.toNat (numR L 1 255 (numR L 1 1 o).2).2
      exact ⟨readNL_wf ht.1 (by omega), (num_rg hb (by omega) (by omega) 2 _).1, (num_rg hb (by omega) (by omega) 2 _).1⟩
    · exact ⟨nod_zero_wf, (show I64 0 from ⟨by decide, by decide⟩), (show I64 0 from ⟨by decide, by decide⟩)⟩
  have hc := listR_all (f := chunkR L) (P := Chk.wf) (chunk_rg hb) (numR L 4 65536 (partR L (numR L 4 1048575 o).2).2).1.toNat (numR L 4 65536 (partR L (numR L 4 1048575 o).2).2).2
  have hn := numR_le hb (show (0 : Int) ≤ 65536 by omega) 4 (partR L (numR L 4 1048575 o).2).2
  have h3 := hp (numR L 4 1048575 o).2
  refine ⟨⟨(num_rg hb (by omega) (by omega) 4 _).1, h3.1.1, h3.2.1, h3.2.2, hc.1, ?_⟩, h3.1.2, ?_⟩
  · exact Nat.le_trans hc.2 (by omega)
  · exact Nat.le_trans hc.2 (by omega)
theorem st_rg : (stR L).1.wf ∧ (∀ o ∈ (stR L).1.os, o.nd.name.size ≤ 1073741824) ∧ (∀ o ∈ (stR L).1.os, o.cs.length ≤ 65536) ∧ (stR L).1.bs.length ≤ 4096 ∧ (stR L).1.os.length ≤ 1048575 := by
  have hbs := fun n o => listR_all (f := blockR L) (P := Blk.wf) (block_rg hb) n o
  have hos := fun n o => listR_all (f := objR L) (P := fun x => x.wf ∧ x.nd.name.size ≤ 1073741824 ∧ x.cs.length ≤ 65536) (obj_rg hb hL) n o
  have n1 := fun s o => numR_le hb (show (0 : Int) ≤ 4096 by omega) s o
  have n2 := fun s o => numR_le hb (show (0 : Int) ≤ 1048575 by omega) s o
  have k : ∀ s o, I64 ((numR L s 4096 o).1 - 1) := fun s o => by have := n1 s o; exact ⟨by omega, by omega⟩
  have l1 : (stR L).1.bs.length ≤ 4096 := Nat.le_trans (hbs _ _).2 (by have := n1 4 (numR L 4 4096 (numR L 4 4096 (numR L 8 281474976710656 (numR L 8 281474976710655 (some 0)).2).2).2).2; omega)
  have l2 : (stR L).1.os.length ≤ 1048575 := Nat.le_trans (hos _ _).2 (by have := n2 4 (listR (blockR L) (numR L 4 4096 (numR L 4 4096 (numR L 4 4096 (numR L 8 281474976710656 (numR L 8 281474976710655 (some 0)).2).2).2).2).1.toNat (numR L 4 4096 (numR L 4 4096 (numR L 4 4096 (numR L 8 281474976710656 (numR L 8 281474976710655 (some 0)).2).2).2).2).2).2; omega)
  refine ⟨⟨(num_rg hb (by omega) (by omega) 8 _).2, (num_rg hb (by omega) (by omega) 8 _).2, k 4 _, k 4 _, (hbs _ _).1, fun o ho => ((hos _ _).1 o ho).1, by omega, by omega⟩, fun o ho => ((hos _ _).1 o ho).2.1, fun o ho => ((hos _ _).1 o ho).2.2, l1, l2⟩
end

/-! ### Objects in a row that is appended to -/
theorem orow_snoc (os : List Obj') (bl : Al) (x : Obj') (a : Option Addr) (c : Nat) : orow (os ++ [x]) (upd bl os.length a c) (os.length + 1) = orow os bl os.length ++ [ocells x a c] := by
  rw [orow_succ]
  congr 1
  · unfold orow
    refine List.map_congr_left fun j hj => ?_
    have hj' : j < os.length := List.mem_range.1 hj
    rw [upd_ne _ _ _ _ _ (by omega)]
    simp [List.getD, List.getElem?_append_left hj']
  · rw [upd_self]
    simp [List.getD]
/-- the objects' rows of chunks, each the call's own -/
def CO (w : World) (B : Nat) (os : List Obj') (bl : Al) : Prop := ∀ j, (hj : j < os.length) → w.ownsRow B 59 4 (.slice (bl j).1 os[j].cs.length (bl j).2) os[j].cs.length (cflat os[j].cs)
theorem CO.fr {w w' : World} {B : Nat} {os : List Obj'} {bl : Al} (h : CO w B os bl) (q : Fr w w') : CO w' B os bl := fun j hj => own_fr (h j hj) q
theorem CO.grown {w w' : World} {B : Nat} {os : List Obj'} {bl : Al} (h : CO w B os bl) {g : Nat} (q : w.grownBy w' (some g)) {cs : Array Value} {t : TypeId} (H : w.heap[g]? = some (.cells cs t (0, 0))) (ht : 59 ≠ t) : CO w' B os bl := fun j hj => own_grown (h j hj) q H ht
theorem CO.own {w w' : World} {B : Nat} {os : List Obj'} {bl : Al} (h : CO w B os bl) {b s n : Nat} {e : TypeId} {v : Value} {xs : List Value} (q : w.grownBy w' v.ownBlock) (O : w.ownsRow b e s v n xs) (ht : 59 ≠ e) : CO w' B os bl :=
  fun j hj => World.ownsRow.kept (h j hj) q (own_ne2 (h j hj) O ht)
theorem CO.snoc {w : World} {B : Nat} {os : List Obj'} {bl : Al} (h : CO w B os bl) {x : Obj'} {a : Option Addr} {c : Nat} (hx : w.ownsRow B 59 4 (.slice a x.cs.length c) x.cs.length (cflat x.cs)) : CO w B (os ++ [x]) (upd bl os.length a c) := by
  intro j hj
  by_cases h1 : j < os.length
  · rw [upd_ne _ _ _ _ _ (by omega)]
    have := h j h1
    simpa [List.getElem_append_left h1] using this
  · have h2 : j = os.length := by simp at hj; omega
    subst h2
    rw [upd_self]
    simpa using hx
theorem own_CRow {w : World} {B n c : Nat} {a : Option Addr} {cs : List Chk} (h : w.ownsRow B 59 4 (.slice a n c) n (cflat cs)) : CRow w a cs := by
  rcases h.2 with ⟨hv, h1⟩ | ⟨g, cap, cur, hv, _⟩
  · have h2 := h.1
    injection hv with e1 e2 e3
    subst e1 e2 e3
    left
    have : cflat cs = [] := List.eq_nil_of_length_eq_zero (by simpa using h2)
    unfold cflat at this
    cases cs with
    | nil => rfl
    | cons x r => simp [ccells] at this
  · injection hv with e1 e2 e3
    subst e1 e3
    have := own_Row (xs := []) (ccells_len cs) (by rw [List.append_nil]; exact h)
    exact this
theorem own_BRow {w : World} {B n c : Nat} {a : Option Addr} {bs : List Blk} {e : TypeId} (h : w.ownsRow B e 4 (.slice a n c) n (bflat bs)) : BRow w a bs := by
  rcases h.2 with ⟨hv, h1⟩ | ⟨g, cap, cur, hv, _⟩
  · have h2 := h.1
    injection hv with e1 e2 e3
    subst e1 e2 e3
    left
    have : bflat bs = [] := List.eq_nil_of_length_eq_zero (by simpa using h2)
    unfold bflat at this
    cases bs with
    | nil => rfl
    | cons x r => simp [bcells] at this
  · injection hv with e1 e2 e3
    subst e1 e3
    exact own_Row (xs := []) (bcells_len bs) (by rw [List.append_nil]; exact h)
theorem own_cap {w : World} {B size n : Nat} {e : TypeId} {a : Option Addr} {c : Nat} {xs : List Value} (h : w.ownsRow B e size (.slice a n c) n xs) : n ≤ c := by
  rcases h.2 with ⟨hv, h1⟩ | ⟨g, cap, cur, hv, _, _, hc, _⟩
  · omega
  · injection hv with _ _ h3; omega
theorem own_ORow {w : World} {B B' c : Nat} {a : Option Addr} {os : List Obj'} {bl : Al} {e : TypeId} (h : w.ownsRow B e 13 (.slice a os.length c) os.length (orow os bl os.length).flatten) (hC : CO w B' os bl) : ORow w a bl os := by
  refine ⟨?_, fun i o hi => ?_⟩
  · cases os with
    | nil => exact .inl rfl
    | cons x r =>
      right
      rcases h.2 with ⟨hv, h1⟩ | ⟨g, cap, cur, hv, _, hg, _⟩
      · simp at h1
      · injection hv with e1 e2 e3
        subst e1 e3
        have hR := own_Row (xs := []) (orow_len (x :: r) bl (x :: r).length) (by rw [List.append_nil]; exact h)
        rcases hR with hR | ⟨g', o', e, hlt, hR⟩
        · have := congrArg List.length hR; rw [orow_length] at this; simp at this
        · injection e with e; injection e with e1 e2; subst e1 e2
          refine ⟨g, 0, rfl, hlt, fun i o hi j v hj hv => hR i _ ?_ j v hj hv⟩
          have hlt := (List.getElem?_eq_some_iff.1 hi).1
          unfold orow
          rw [List.getElem?_map, List.getElem?_range hlt]
          simp [List.getD, hi]
  · have hlt := (List.getElem?_eq_some_iff.1 hi).1
    have he := (List.getElem?_eq_some_iff.1 hi).2
    have := hC i hlt
    rw [he] at this
    exact ⟨own_CRow this, own_cap this⟩
end Go.Proofs.YtefkklgelmbaiaaDoor
