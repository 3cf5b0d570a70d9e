/- The law AuditReads, walked. It returns true. (PRINTED BY wip/tools/mk_auditreads.py) -/
import Derived.Test.YtioapjnaopnhaaaDoorReadProg3
import Derived.Test.YtioapjnaopnhaaaDoorSame
import Derived.Test.YtioapjnaopnhaaaDoorRefReadProg
import Derived.Test.YtioapjnaopnhaaaDoorOwn
set_option linter.unusedSimpArgs false
set_option linter.unusedVariables false
namespace Go.Proofs.YtioapjnaopnhaaaDoor
open Go.RowKit Go.Proofs

def outOf : Except Nat Rep → Rep × Int × Int
  | .ok r => (r, 0, 0)
  | .error n => (zeroRep, 200, n)
theorem end_out {B : Nat} {res : Except Nat Rep} {e : Ending} {w' : World} {r : Rep} {er n : Int} (h : outOf res = (r, er, n)) (he : endRead B res e w') :
    ∃ a c B', B ≤ B' ∧ e = .returned (.tuple #[repV r a c, .int .i64 er, .int .i64 n]) ∧ w'.ownsRow B' 29 4 (.slice a r.fs.length c) r.fs.length (frow r.fs) := by
  cases res with
  | ok u =>
    injection h with h1 h2; injection h2 with h2 h3
    subst h1 h2 h3
    obtain ⟨a, c, rfl, B', hB, ho⟩ := he
    exact ⟨a, c, B', hB, rfl, ho⟩
  | error m =>
    injection h with h1 h2; injection h2 with h2 h3
    subst h1 h2 h3
    exact ⟨none, 0, B, Nat.le_refl _, he, by simp [zeroRep, frow], .inl ⟨rfl, rfl⟩⟩
theorem read2 (t : List UInt8) (r : Rep) (er n : Int) (h : Hid (outOf (readL t) = (r, er, n))) (w : World) (hw : Ok w) (hm : More w) (ht : t.length ≤ 1073741824) (hsz : 9 ≤ w.heap.size) :
    Calls Tryd.prog 10 #[.string ⟨t.toArray⟩] w fun e w' => Fr w w' ∧ ∃ a c B', w.heap.size ≤ B' ∧ e = .returned (.tuple #[repV r a c, .int .i64 er, .int .i64 n]) ∧ w'.ownsRow B' 29 4 (.slice a r.fs.length c) r.fs.length (frow r.fs) :=
  (read_go t w hw hm ht hsz).mono fun _ _ ⟨q, he⟩ => ⟨q, end_out h.out he⟩
theorem refRead2 (t : List UInt8) (r : Rep) (er n : Int) (h : Hid (outOf (readL t) = (r, er, n))) (w : World) (hw : Ok w) (ht : t.length ≤ 1073741824) (hsz : 9 ≤ w.heap.size) :
    Calls Tryd.prog 9 #[.string ⟨t.toArray⟩] w fun e w' => Fr w w' ∧ ∃ a c B', w.heap.size ≤ B' ∧ e = .returned (.tuple #[repV r a c, .int .i64 er, .int .i64 n]) ∧ w'.ownsRow B' 29 4 (.slice a r.fs.length c) r.fs.length (frow r.fs) :=
  (refRead_go t w hw ht hsz).mono fun _ _ ⟨q, he⟩ => ⟨q, end_out h.out he⟩
theorem row_lt {W : World} {B e size n : Nat} {ao : Option Addr} {cap : Nat} {xs : List Value} (h : W.ownsRow B e size (.slice ao n cap) n xs) : ∀ g, ao = some ⟨g, 0, none⟩ → B ≤ g ∧ g < W.heap.size := fun g hg => by
  subst hg
  exact h.lt g rfl
theorem own_type {W : World} {B e size n : Nat} {ao : Option Addr} {cap : Nat} {xs : List Value} (h : W.ownsRow B e size (.slice ao n cap) n xs) : ∀ g, ao = some ⟨g, 0, none⟩ → ∃ cells, W.heap[g]? = some (.cells cells e (0, 0)) := fun g hg => by
  subst hg
  rcases h.2 with ⟨hv, _⟩ | ⟨g', cap', cur, hv, _, hh, _⟩
  · injection hv with h1; cases h1
  · injection hv with h1; injection h1 with h1; injection h1 with h1; subst h1
    exact ⟨cur, hh⟩
theorem own_low {W : World} {B B' e size n : Nat} {v : Value} {xs : List Value} (h : W.ownsRow B e size v n xs) (hb : B' ≤ B) : W.ownsRow B' e size v n xs := by
  obtain ⟨h1, h2⟩ := h
  refine ⟨h1, ?_⟩
  rcases h2 with h2 | ⟨g, cap, cur, hv, hg, r⟩
  · exact .inl h2
  · exact .inr ⟨g, cap, cur, hv, by omega, r⟩
theorem FRow.of_own' {w : World} {B c : Nat} {a : Option Addr} {fs : List Fnd} (h : w.ownsRow B 29 4 (.slice a fs.length c) fs.length (frow fs)) : FRow w a fs := by
  have h0 := h
  rcases h.2 with ⟨_, h2⟩ | ⟨g, cap, cur, hv, hb, hg, _⟩
  · exact .inl (List.eq_nil_of_length_eq_zero h2)
  · injection hv with e1 e2 e3
    subst e1 e3
    refine .inr ⟨g, 0, rfl, (Array.getElem?_eq_some_iff.1 hg).1, fun i f hi => ?_⟩
    have key : ∀ j, j < 4 → ∀ u, (fcells f)[j]? = some u → w.cell? ⟨g, i * 4 + j, none⟩ = some u := fun j hj u hu => by
      have := h0.cells (g := g) rfl (i * 4 + j) u (by rw [frow_get fs i j f hi hj]; exact hu)
      rwa [Lib.add_plain, Nat.zero_add] at this
    have k0 := key 0 (by omega) _ rfl
    have k1 := key 1 (by omega) _ rfl
    have k2 := key 2 (by omega) _ rfl
    have k3 := key 3 (by omega) _ rfl
    exact ⟨by simpa using k0, by simpa using k1, by simpa using k2, by simpa using k3⟩
theorem same_self' (r : Rep) (aa ab : Option Addr) (ca cb : Nat) (w : World) (hw : Ok w) (hA : FRow w aa r.fs) (hB : FRow w ab r.fs) (hn : r.fs.length ≤ 1099511627776) :
    Calls Tryd.prog 8 #[repV r aa ca, repV r ab cb] w fun e w' => e = .returned (.bool true) ∧ Fr w w' :=
  (same_any r r aa ab ca cb w hw hA hB hn).mono fun e w' ⟨he, q⟩ => ⟨by rw [he, sameR_refl], q⟩
theorem out_len {t : List UInt8} {r : Rep} {er n : Int} (h : outOf (readL t) = (r, er, n)) : r.fs.length ≤ t.length := by
  cases hr : readL t with
  | error m => rw [hr] at h; injection h with h1 h2; subst h1; simp [zeroRep]
  | ok u =>
    rw [hr] at h; injection h with h1 h2; subst h1
    obtain ⟨ht2, hu⟩ := read_ok hr
    have h1 : u.fs.length ≤ ((u.fs.map rowL).flatten).length := by
      clear ht2 hr
      generalize u.fs = fs
      induction fs with
      | nil => simp
      | cons x fs ih => have := rowL_ne x; simp only [List.map_cons, List.flatten_cons, List.length_append, List.length_cons]; omega
    have h2 : ((u.fs.map rowL).flatten).length ≤ (showL u).length := by unfold showL; simp
    rw [← ht2] at h2
    omega
def slOf (nt no : Nat) (a3 a4 a5 a6 : Option Addr) (c3 c4 c5 c6 : Nat) : Nat → Sl
  | 0 => ⟨a3, nt, c3⟩
  | 1 => ⟨a4, nt, c4⟩
  | 2 => ⟨a5, no, c5⟩
  | _ => ⟨a6, nt, c6⟩

set_option maxHeartbeats 6400000 in
set_option maxRecDepth 100000 in
theorem law_AuditReads (Xt Xo : List UInt8) (w : World) (hw : Ok w) (m : More w) (ht : Xt.length ≤ 1048576) (ho : Xo.length ≤ 1048576) (hsz : 9 ≤ w.heap.size) :
    Calls Tryd.prog 4 #[.string ⟨Xt.toArray⟩, .string ⟨Xo.toArray⟩] w fun e w' => e = .returned (.bool true) ∧ Fr w w' := by
  obtain ⟨rt, et, nt, ht'⟩ : ∃ r e n, Hid (outOf (readL Xt) = (r, e, n)) := ⟨_, _, _, Lib.hid rfl⟩
  obtain ⟨ro, eo, no, ho'⟩ : ∃ r e n, Hid (outOf (readL Xo) = (r, e, n)) := ⟨_, _, _, Lib.hid rfl⟩
  have hlt := out_len ht'.out
  have hlo := out_len ho'.out
  have f := Fr.refl hw
  have tok1 : True := trivial
  go_enter Tryd.func4, Tryd.ntmps4
  go_wp2_with (first
    | (go_at_call 9; have _t := tok1; refine (refRead2 Xt rt et nt ht' _ f.ok (by omega) hsz).mono ?_; rintro e w1 ⟨q, a1, c1, B1, hB1, rfl, own1⟩; replace m := m.fr q; replace hsz := Nat.le_trans hsz q.size; have l1 := row_lt own1; unfold repV; have hQ1 := q.size; replace f := f.trans q; obtain ⟨v1, g1, hg1, hv1, fk, hz1, H1⟩ := boxedN f.ok #[.int .u64 rt.floor, .int .i64 rt.counted, .int .i64 rt.live, .int .i64 rt.used, .int .i64 rt.bad, .bool rt.saved, .slice a1 rt.fs.length c1] 25; replace own1 := own_fr own1 fk; replace m := m.fr fk; replace hsz := Nat.le_trans hsz fk.size; replace f := f.trans fk; clear q fk tok1; have tok2 : True := trivial)
    | (go_at_call 9; have _t := tok2; refine (refRead2 Xo ro eo no ho' _ f.ok (by omega) hsz).mono ?_; rintro e w2 ⟨q, a2, c2, B2, hB2, rfl, own2⟩; replace H1 := q.heap H1; replace own1 := own_fr own1 q; replace m := m.fr q; replace hsz := Nat.le_trans hsz q.size; have l2 := row_lt own2; unfold repV; have hQ2 := q.size; replace f := f.trans q; obtain ⟨v2, g2, hg2, hv2, fk, hz2, H2⟩ := boxedN f.ok #[.int .u64 ro.floor, .int .i64 ro.counted, .int .i64 ro.live, .int .i64 ro.used, .int .i64 ro.bad, .bool ro.saved, .slice a2 ro.fs.length c2] 25; replace H1 := fk.heap H1; replace own1 := own_fr own1 fk; replace own2 := own_fr own2 fk; replace m := m.fr fk; replace hsz := Nat.le_trans hsz fk.size; replace f := f.trans fk; clear q fk tok2; have tok3 : True := trivial)
    | (go_at_call 10; have _t := tok3; refine (read2 Xt rt et nt ht' _ f.ok m (by omega) hsz).mono ?_; rintro e w3 ⟨q, a3, c3, B3, hB3, rfl, own3⟩; replace H1 := q.heap H1; replace own1 := own_fr own1 q; replace H2 := q.heap H2; replace own2 := own_fr own2 q; replace m := m.fr q; replace hsz := Nat.le_trans hsz q.size; have l3 := row_lt own3; unfold repV; have hQ3 := q.size; replace f := f.trans q; obtain ⟨v3, g3, hg3, hv3, fk, hz3, H3⟩ := boxedN f.ok #[.int .u64 rt.floor, .int .i64 rt.counted, .int .i64 rt.live, .int .i64 rt.used, .int .i64 rt.bad, .bool rt.saved, .slice a3 rt.fs.length c3] 25; replace H1 := fk.heap H1; replace own1 := own_fr own1 fk; replace H2 := fk.heap H2; replace own2 := own_fr own2 fk; replace own3 := own_fr own3 fk; replace m := m.fr fk; replace hsz := Nat.le_trans hsz fk.size; replace f := f.trans fk; clear q fk tok3; have tok4 : True := trivial)
    | (go_at_call 10; have _t := tok4; refine (read2 Xt rt et nt ht' _ f.ok m (by omega) hsz).mono ?_; rintro e w4 ⟨q, a4, c4, B4, hB4, rfl, own4⟩; replace H1 := q.heap H1; replace own1 := own_fr own1 q; replace H2 := q.heap H2; replace own2 := own_fr own2 q; replace H3 := q.heap H3; replace own3 := own_fr own3 q; replace m := m.fr q; replace hsz := Nat.le_trans hsz q.size; have l4 := row_lt own4; unfold repV; have hQ4 := q.size; replace f := f.trans q; obtain ⟨v4, g4, hg4, hv4, fk, hz4, H4⟩ := boxedN f.ok #[.int .u64 rt.floor, .int .i64 rt.counted, .int .i64 rt.live, .int .i64 rt.used, .int .i64 rt.bad, .bool rt.saved, .slice a4 rt.fs.length c4] 25; replace H1 := fk.heap H1; replace own1 := own_fr own1 fk; replace H2 := fk.heap H2; replace own2 := own_fr own2 fk; replace H3 := fk.heap H3; replace own3 := own_fr own3 fk; replace own4 := own_fr own4 fk; replace m := m.fr fk; replace hsz := Nat.le_trans hsz fk.size; replace f := f.trans fk; clear q fk tok4; have tok5 : True := trivial)
    | (go_at_call 10; have _t := tok5; refine (read2 Xo ro eo no ho' _ f.ok m (by omega) hsz).mono ?_; rintro e w5 ⟨q, a5, c5, B5, hB5, rfl, own5⟩; replace H1 := q.heap H1; replace own1 := own_fr own1 q; replace H2 := q.heap H2; replace own2 := own_fr own2 q; replace H3 := q.heap H3; replace own3 := own_fr own3 q; replace H4 := q.heap H4; replace own4 := own_fr own4 q; replace m := m.fr q; replace hsz := Nat.le_trans hsz q.size; have l5 := row_lt own5; unfold repV; have hQ5 := q.size; replace f := f.trans q; obtain ⟨v5, g5, hg5, hv5, fk, hz5, H5⟩ := boxedN f.ok #[.int .u64 ro.floor, .int .i64 ro.counted, .int .i64 ro.live, .int .i64 ro.used, .int .i64 ro.bad, .bool ro.saved, .slice a5 ro.fs.length c5] 25; replace H1 := fk.heap H1; replace own1 := own_fr own1 fk; replace H2 := fk.heap H2; replace own2 := own_fr own2 fk; replace H3 := fk.heap H3; replace own3 := own_fr own3 fk; replace H4 := fk.heap H4; replace own4 := own_fr own4 fk; replace own5 := own_fr own5 fk; replace m := m.fr fk; replace hsz := Nat.le_trans hsz fk.size; replace f := f.trans fk; clear q fk tok5; have tok6 : True := trivial)
    | (go_at_call 10; have _t := tok6; refine (read2 Xt rt et nt ht' _ f.ok m (by omega) hsz).mono ?_; rintro e w6 ⟨q, a6, c6, B6, hB6, rfl, own6⟩; replace H1 := q.heap H1; replace own1 := own_fr own1 q; replace H2 := q.heap H2; replace own2 := own_fr own2 q; replace H3 := q.heap H3; replace own3 := own_fr own3 q; replace H4 := q.heap H4; replace own4 := own_fr own4 q; replace H5 := q.heap H5; replace own5 := own_fr own5 q; replace m := m.fr q; replace hsz := Nat.le_trans hsz q.size; have l6 := row_lt own6; unfold repV; have hQ6 := q.size; replace f := f.trans q; obtain ⟨v6, g6, hg6, hv6, fk, hz6, H6⟩ := boxedN f.ok #[.int .u64 rt.floor, .int .i64 rt.counted, .int .i64 rt.live, .int .i64 rt.used, .int .i64 rt.bad, .bool rt.saved, .slice a6 rt.fs.length c6] 25; replace H1 := fk.heap H1; replace own1 := own_fr own1 fk; replace H2 := fk.heap H2; replace own2 := own_fr own2 fk; replace H3 := fk.heap H3; replace own3 := own_fr own3 fk; replace H4 := fk.heap H4; replace own4 := own_fr own4 fk; replace H5 := fk.heap H5; replace own5 := own_fr own5 fk; replace own6 := own_fr own6 fk; replace m := m.fr fk; replace hsz := Nat.le_trans hsz fk.size; replace f := f.trans fk; clear q fk tok6; have tok7 : True := trivial; obtain ⟨b10, b11, b12, b13, b14, b15, b16⟩ := blk7 H1; obtain ⟨b20, b21, b22, b23, b24, b25, b26⟩ := blk7 H2; obtain ⟨b30, b31, b32, b33, b34, b35, b36⟩ := blk7 H3; obtain ⟨b40, b41, b42, b43, b44, b45, b46⟩ := blk7 H4; obtain ⟨b50, b51, b52, b53, b54, b55, b56⟩ := blk7 H5; obtain ⟨b60, b61, b62, b63, b64, b65, b66⟩ := blk7 H6)
    | (go_at_call 8; have _t := tok7; refine (same_self' rt a3 a1 c3 c1 _ f.ok (FRow.of_own' own3) (FRow.of_own' own1) (by omega)).mono ?_; rintro e w7 ⟨rfl, q⟩; replace H1 := q.heap H1; replace own1 := own_fr own1 q; replace H2 := q.heap H2; replace own2 := own_fr own2 q; replace H3 := q.heap H3; replace own3 := own_fr own3 q; replace H4 := q.heap H4; replace own4 := own_fr own4 q; replace H5 := q.heap H5; replace own5 := own_fr own5 q; replace H6 := q.heap H6; replace own6 := own_fr own6 q; replace f := f.trans q; clear q tok7; have tok8 : True := trivial; obtain ⟨b10, b11, b12, b13, b14, b15, b16⟩ := blk7 H1; obtain ⟨b20, b21, b22, b23, b24, b25, b26⟩ := blk7 H2; obtain ⟨b30, b31, b32, b33, b34, b35, b36⟩ := blk7 H3; obtain ⟨b40, b41, b42, b43, b44, b45, b46⟩ := blk7 H4; obtain ⟨b50, b51, b52, b53, b54, b55, b56⟩ := blk7 H5; obtain ⟨b60, b61, b62, b63, b64, b65, b66⟩ := blk7 H6)
    | (go_at_call 8; have _t := tok8; refine (same_self' rt a4 a1 c4 c1 _ f.ok (FRow.of_own' own4) (FRow.of_own' own1) (by omega)).mono ?_; rintro e w8 ⟨rfl, q⟩; replace H1 := q.heap H1; replace own1 := own_fr own1 q; replace H2 := q.heap H2; replace own2 := own_fr own2 q; replace H3 := q.heap H3; replace own3 := own_fr own3 q; replace H4 := q.heap H4; replace own4 := own_fr own4 q; replace H5 := q.heap H5; replace own5 := own_fr own5 q; replace H6 := q.heap H6; replace own6 := own_fr own6 q; replace f := f.trans q; clear q tok8; have tok9 : True := trivial; obtain ⟨b10, b11, b12, b13, b14, b15, b16⟩ := blk7 H1; obtain ⟨b20, b21, b22, b23, b24, b25, b26⟩ := blk7 H2; obtain ⟨b30, b31, b32, b33, b34, b35, b36⟩ := blk7 H3; obtain ⟨b40, b41, b42, b43, b44, b45, b46⟩ := blk7 H4; obtain ⟨b50, b51, b52, b53, b54, b55, b56⟩ := blk7 H5; obtain ⟨b60, b61, b62, b63, b64, b65, b66⟩ := blk7 H6)
    | (go_at_call 8; have _t := tok9; refine (same_self' rt a6 a1 c6 c1 _ f.ok (FRow.of_own' own6) (FRow.of_own' own1) (by omega)).mono ?_; rintro e w9 ⟨rfl, q⟩; replace H1 := q.heap H1; replace own1 := own_fr own1 q; replace H2 := q.heap H2; replace own2 := own_fr own2 q; replace H3 := q.heap H3; replace own3 := own_fr own3 q; replace H4 := q.heap H4; replace own4 := own_fr own4 q; replace H5 := q.heap H5; replace own5 := own_fr own5 q; replace H6 := q.heap H6; replace own6 := own_fr own6 q; replace f := f.trans q; clear q tok9; have tok10 : True := trivial; obtain ⟨b10, b11, b12, b13, b14, b15, b16⟩ := blk7 H1; obtain ⟨b20, b21, b22, b23, b24, b25, b26⟩ := blk7 H2; obtain ⟨b30, b31, b32, b33, b34, b35, b36⟩ := blk7 H3; obtain ⟨b40, b41, b42, b43, b44, b45, b46⟩ := blk7 H4; obtain ⟨b50, b51, b52, b53, b54, b55, b56⟩ := blk7 H5; obtain ⟨b60, b61, b62, b63, b64, b65, b66⟩ := blk7 H6)
    | (go_at_call 8; have _t := tok10; refine (same_self' ro a5 a2 c5 c2 _ f.ok (FRow.of_own' own5) (FRow.of_own' own2) (by omega)).mono ?_; rintro e w10 ⟨rfl, q⟩; replace H1 := q.heap H1; replace own1 := own_fr own1 q; replace H2 := q.heap H2; replace own2 := own_fr own2 q; replace H3 := q.heap H3; replace own3 := own_fr own3 q; replace H4 := q.heap H4; replace own4 := own_fr own4 q; replace H5 := q.heap H5; replace own5 := own_fr own5 q; replace H6 := q.heap H6; replace own6 := own_fr own6 q; replace f := f.trans q; clear q tok10; have tok11 : True := trivial; obtain ⟨b10, b11, b12, b13, b14, b15, b16⟩ := blk7 H1; obtain ⟨b20, b21, b22, b23, b24, b25, b26⟩ := blk7 H2; obtain ⟨b30, b31, b32, b33, b34, b35, b36⟩ := blk7 H3; obtain ⟨b40, b41, b42, b43, b44, b45, b46⟩ := blk7 H4; obtain ⟨b50, b51, b52, b53, b54, b55, b56⟩ := blk7 H5; obtain ⟨b60, b61, b62, b63, b64, b65, b66⟩ := blk7 H6; obtain ⟨v7, gR, hgR, hv7, fk, hz7, HR⟩ := boxedN f.ok #[.int .u64 rt.floor, .int .i64 rt.counted, .int .i64 rt.live, .int .i64 rt.used, .int .i64 rt.bad, .bool rt.saved, .slice a3 rt.fs.length c3, .int .u64 rt.floor, .int .i64 rt.counted, .int .i64 rt.live, .int .i64 rt.used, .int .i64 rt.bad, .bool rt.saved, .slice a4 rt.fs.length c4, .int .u64 ro.floor, .int .i64 ro.counted, .int .i64 ro.live, .int .i64 ro.used, .int .i64 ro.bad, .bool ro.saved, .slice a5 ro.fs.length c5, .int .u64 rt.floor, .int .i64 rt.counted, .int .i64 rt.live, .int .i64 rt.used, .int .i64 rt.bad, .bool rt.saved, .slice a6 rt.fs.length c6] 25; replace H3 := fk.heap H3; replace own3 := own_fr own3 fk; replace H4 := fk.heap H4; replace own4 := own_fr own4 fk; replace H5 := fk.heap H5; replace own5 := own_fr own5 fk; replace H6 := fk.heap H6; replace own6 := own_fr own6 fk; replace f := f.trans fk; clear fk)
    | (go_at_call 11; refine (own_true gR w.heap.size (slOf (rt.fs.length) (ro.fs.length) a3 a4 a5 a6 c3 c4 c5 c6) _ _ ?hA HR ?hc ?hS ?hn f.size).mono ?_; rotate_left 4; rintro e w11 ⟨rfl, hbe⟩; replace f := Fr.of hw (f.below.trans hbe)))
  · go_ret
    exact ⟨rfl, f⟩
  · have n3 := own_type own3
    have n4 := own_type own4
    have n5 := own_type own5
    have n6 := own_type own6
    have r3 := row_lt own3
    have r4 := row_lt own4
    have r5 := row_lt own5
    have r6 := row_lt own6
    refine ⟨fun i g hi ha => ?_, hz7, fun i j g h hi hj hne hga hha => ?_, fun i g hi ha => ?_⟩
    · have hi4 : i = 0 ∨ i = 1 ∨ i = 2 ∨ i = 3 := by omega
      rcases hi4 with rfl | rfl | rfl | rfl <;> first | exact (r3 g ha).2 | exact (r4 g ha).2 | exact (r5 g ha).2 | exact (r6 g ha).2
    · have hi4 : i = 0 ∨ i = 1 ∨ i = 2 ∨ i = 3 := by omega
      have hj4 : j = 0 ∨ j = 1 ∨ j = 2 ∨ j = 3 := by omega
      have key : ∀ g, (∀ (h : a3 = some ⟨g, 0, none⟩), B3 ≤ g ∧ g < w3.heap.size) ∧ (∀ (h : a4 = some ⟨g, 0, none⟩), B4 ≤ g ∧ g < w4.heap.size) ∧ (∀ (h : a5 = some ⟨g, 0, none⟩), B5 ≤ g ∧ g < w5.heap.size) ∧ (∀ (h : a6 = some ⟨g, 0, none⟩), B6 ≤ g ∧ g < w6.heap.size) := fun g => ⟨l3 g, l4 g, l5 g, l6 g⟩
      obtain ⟨x3, x4, x5, x6⟩ := key g
      obtain ⟨y3, y4, y5, y6⟩ := key h
      rcases hi4 with rfl | rfl | rfl | rfl <;> rcases hj4 with rfl | rfl | rfl | rfl <;> first | exact absurd rfl hne | (have A := (by first | exact x3 hga | exact x4 hga | exact x5 hga | exact x6 hga); have C := (by first | exact y3 hha | exact y4 hha | exact y5 hha | exact y6 hha); omega)
    · have hi4 : i = 0 ∨ i = 1 ∨ i = 2 ∨ i = 3 := by omega
      rintro rfl
      have no : ∀ (a : Option Addr), (∀ g, a = some ⟨g, 0, none⟩ → ∃ cells, v7.heap[g]? = some (.cells cells 29 (0, 0))) → a ≠ some ⟨g, 0, none⟩ := fun a hn e => by
        obtain ⟨cs, hc⟩ := hn g e
        rw [HR] at hc
        injection hc with hc
        injection hc with _ hc
        exact absurd hc (by decide)
      rcases hi4 with rfl | rfl | rfl | rfl <;> first | exact no a3 n3 ha | exact no a4 n4 ha | exact no a5 n5 ha | exact no a6 n6 ha
  · intro i hi
    have hi4 : i = 0 ∨ i = 1 ∨ i = 2 ∨ i = 3 := by omega
    rcases hi4 with rfl | rfl | rfl | rfl <;> rfl
  · intro i hi
    have hi4 : i = 0 ∨ i = 1 ∨ i = 2 ∨ i = 3 := by omega
    have h3 : w.heap.size ≤ B3 := by omega
    have h4 : w.heap.size ≤ B4 := by omega
    have h5 : w.heap.size ≤ B5 := by omega
    have h6 : w.heap.size ≤ B6 := by omega
    rcases hi4 with rfl | rfl | rfl | rfl <;> first | exact ⟨_, own_low own3 h3⟩ | exact ⟨_, own_low own4 h4⟩ | exact ⟨_, own_low own5 h5⟩ | exact ⟨_, own_low own6 h6⟩
  · intro i hi
    have hi4 : i = 0 ∨ i = 1 ∨ i = 2 ∨ i = 3 := by omega
    rcases hi4 with rfl | rfl | rfl | rfl <;> (simp only [slOf]; omega)
end Go.Proofs.YtioapjnaopnhaaaDoor
