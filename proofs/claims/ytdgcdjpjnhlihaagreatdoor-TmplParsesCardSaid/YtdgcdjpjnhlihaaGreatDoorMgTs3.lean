/-
  The contract of lacunaref00.SpoilParts: it writes only what lies from block B on, and what stood there stays of its type. The condition: none of the parts' blocks is frozen.
-/
/-
  errors.Is at the errors of tmpl.Parse and the number that they are around; errors.As at no error. No condition but the error's own form in memory.
-/
import Derived.Test.YtdgcdjpjnhlihaaGreatDoorMgTrd
import Derived.Test.YtdgcdjpjnhlihaaGreatDoorMgTs0
import Derived.Test.YtdgcdjpjnhlihaaGreatDoorTatM
import Derived.Lib.IfaceEq
set_option linter.unusedVariables false
set_option linter.unusedSimpArgs false
namespace Go.Proofs.YtdgcdjpjnhlihaaGreatDoor
open Go.RowKit Go.Shelf
attribute [local go_sem ↓] Go.wp_at_zero Go.wp_at_succ

/-- What may stand where v stood. -/
def Wk (v v' : Value) : Prop := v' = v ∨ (∃ k a b, v = .int k a ∧ v' = .int k b) ∨ (∃ a b, v = .string a ∧ v' = .string b) ∨ (∃ a b, v = .bool a ∧ v' = .bool b) ∨ (∃ a n c, v = .slice a n c ∧ v' = .slice none 0 0)
theorem Wk.int {k : IntKind} {a : Int} {v : Value} (h : Wk (.int k a) v) : ∃ b, v = .int k b := by
  rcases h with rfl | ⟨k2, a2, b2, h1, rfl⟩ | ⟨_, _, h1, _⟩ | ⟨_, _, h1, _⟩ | ⟨_, _, _, h1, _⟩
  · exact ⟨a, rfl⟩
  · injection h1 with e1 e2; subst e1; exact ⟨b2, rfl⟩
  all_goals cases h1
theorem Wk.string {a : ByteArray} {v : Value} (h : Wk (.string a) v) : ∃ b, v = .string b := by
  rcases h with rfl | ⟨_, _, _, h1, _⟩ | ⟨_, b, _, rfl⟩ | ⟨_, _, h1, _⟩ | ⟨_, _, _, h1, _⟩
  · exact ⟨a, rfl⟩
  · cases h1
  · exact ⟨b, rfl⟩
  all_goals cases h1
theorem Wk.bool {a : Bool} {v : Value} (h : Wk (.bool a) v) : ∃ b, v = .bool b := by
  rcases h with rfl | ⟨_, _, _, h1, _⟩ | ⟨_, _, h1, _⟩ | ⟨_, b, _, rfl⟩ | ⟨_, _, _, h1, _⟩
  · exact ⟨a, rfl⟩
  · cases h1
  · cases h1
  · exact ⟨b, rfl⟩
  · cases h1
theorem Wk.slice {a : Option Addr} {n c : Nat} {v : Value} (h : Wk (.slice a n c) v) : v = .slice a n c ∨ v = .slice none 0 0 := by
  rcases h with rfl | ⟨_, _, _, h1, _⟩ | ⟨_, _, h1, _⟩ | ⟨_, _, h1, _⟩ | ⟨_, _, _, _, rfl⟩
  · exact .inl rfl
  · cases h1
  · cases h1
  · cases h1
  · exact .inr rfl
theorem Wk.trans {x y z : Value} (h : Wk x y) (k : Wk y z) : Wk x z := by
  rcases h with rfl | ⟨k1, a, b, rfl, rfl⟩ | ⟨a, b, rfl, rfl⟩ | ⟨a, b, rfl, rfl⟩ | ⟨a, n, c, rfl, rfl⟩
  · exact k
  · obtain ⟨c, rfl⟩ := k.int; exact .inr (.inl ⟨_, _, _, rfl, rfl⟩)
  · obtain ⟨c, rfl⟩ := k.string; exact .inr (.inr (.inl ⟨_, _, rfl, rfl⟩))
  · obtain ⟨c, rfl⟩ := k.bool; exact .inr (.inr (.inr (.inl ⟨_, _, rfl, rfl⟩)))
  · rcases k.slice with rfl | rfl <;> exact .inr (.inr (.inr (.inr ⟨_, _, _, rfl, rfl⟩)))
/-- What spoiling does to the memory. -/
structure Sp (B : Nat) (w w' : World) : Prop where
  bel : Below B w w'
  cel : ∀ b o v, w.cell? ⟨b, o, none⟩ = some v → ∃ v', w'.cell? ⟨b, o, none⟩ = some v' ∧ Wk v v'
  unf : ∀ b, UnF w b → UnF w' b
theorem Sp.refl (B : Nat) (w : World) : Sp B w w := ⟨Below.refl _ _, fun _ _ v h => ⟨v, h, .inl rfl⟩, fun _ h => h⟩
theorem Sp.trans {B : Nat} {a b c : World} (h : Sp B a b) (k : Sp B b c) : Sp B a c := ⟨h.bel.trans k.bel, fun x o v hv => by
  obtain ⟨v1, h1, h2⟩ := h.cel x o v hv
  obtain ⟨v2, h3, h4⟩ := k.cel x o v1 h1
  exact ⟨v2, h3, h2.trans h4⟩, fun b h1 => k.unf b (h.unf b h1)⟩
theorem unf_set {w : World} {b c j : Nat} {v : Value} (h : UnF w b) : UnF (w.setCell ⟨c, j, none⟩ v) b := fun i => by rw [World.frozen?_setCell]; exact h i
theorem cel_set {w : World} {c j : Nat} {u x : Value} (hc : w.cell? ⟨c, j, none⟩ = some x) (hx : Wk x u) : ∀ b o v, w.cell? ⟨b, o, none⟩ = some v → ∃ v', (w.setCell ⟨c, j, none⟩ u).cell? ⟨b, o, none⟩ = some v' ∧ Wk v v' := by
  intro b o v hv
  by_cases e : (⟨c, j, none⟩ : Addr) = ⟨b, o, none⟩
  · rw [← e] at hv ⊢
    rw [hc] at hv
    injection hv with hv
    exact ⟨u, World.cell?_setCell_same _ _ _ hc, by rw [← hv]; exact hx⟩
  · exact ⟨v, (World.cell?_setCell_other _ _ _ _ e).trans hv, .inl rfl⟩
theorem set_far {w : World} {b i j : Nat} {v : Value} (h : i ≠ j) : (w.setCell ⟨b, i, none⟩ v).cell? ⟨b, j, none⟩ = w.cell? ⟨b, j, none⟩ := World.cell?_setCell_other _ _ _ _ (by intro e; injection e with _ e _; exact h e)
theorem Sp.set {B c j : Nat} {w0 w : World} {u x : Value} (h : Sp B w0 w) (hB : B ≤ c) (hc : w.cell? ⟨c, j, none⟩ = some x) (hx : Wk x u) : Sp B w0 (w.setCell ⟨c, j, none⟩ u) :=
  h.trans ⟨(Below.refl B w).setCell hB _, cel_set hc hx, fun b hb => unf_set hb⟩
/-- A list of texts, whichever. -/
def NmW (B : Nat) (w : World) (v : Value) : Prop := ∃ a n c, v = .slice a n c ∧ n ≤ c ∧ c ≤ maxLen ∧ (n ≠ 0 → ∃ b o, a = some ⟨b, o, none⟩ ∧ B ≤ b ∧ UnF w b ∧ ∀ i, i < n → ∃ s, w.cell? ⟨b, o + i, none⟩ = some (.string s))
/-- Parts that may have been spoilt, from a place on. -/
def RowW (B : Nat) (w : World) : Pt → Nat → Nat → Prop
  | .nil, _, _ => True
  | .cons h k e r, b, o =>
    (∃ kd ps tx rt vn nm, w.cell? ⟨b, o, none⟩ = some (.int .u8 kd) ∧ w.cell? ⟨b, o + 1, none⟩ = some (.int .i64 ps) ∧ w.cell? ⟨b, o + 2, none⟩ = some (.string tx) ∧ w.cell? ⟨b, o + 3, none⟩ = some (.bool rt) ∧ w.cell? ⟨b, o + 4, none⟩ = some vn ∧ w.cell? ⟨b, o + 5, none⟩ = some (.string nm) ∧ NmW B w vn) ∧
    (∃ (a : Option Addr) (n c : Nat), w.cell? ⟨b, o + 6, none⟩ = some (.slice a n c) ∧ n ≤ c ∧ c ≤ maxLen ∧ (n = 0 ∨ (n = k.len ∧ ∃ b' o', a = some ⟨b', o', none⟩ ∧ B ≤ b' ∧ UnF w b' ∧ RowW B w k b' o'))) ∧
    (∃ (a : Option Addr) (n c : Nat), w.cell? ⟨b, o + 7, none⟩ = some (.slice a n c) ∧ n ≤ c ∧ c ≤ maxLen ∧ (n = 0 ∨ (n = e.len ∧ ∃ b' o', a = some ⟨b', o', none⟩ ∧ B ≤ b' ∧ UnF w b' ∧ RowW B w e b' o'))) ∧
    RowW B w r b (o + 8)
theorem NmW.sp {B : Nat} {w w' : World} {v v' : Value} (hs : Sp B w w') (h : NmW B w v) (hv : Wk v v') : NmW B w' v' := by
  obtain ⟨a, n, c, rfl, h1, h2, h3⟩ := h
  rcases hv.slice with rfl | rfl
  · refine ⟨a, n, c, rfl, h1, h2, fun hn => ?_⟩
    obtain ⟨b, o, ha, hB, hu, hc⟩ := h3 hn
    refine ⟨b, o, ha, hB, hs.unf b hu, fun i hi => ?_⟩
    obtain ⟨s, hs1⟩ := hc i hi
    obtain ⟨v', hv', hw⟩ := hs.cel _ _ _ hs1
    obtain ⟨t, rfl⟩ := hw.string
    exact ⟨t, hv'⟩
  · exact ⟨none, 0, 0, rfl, Nat.le_refl _, Nat.zero_le _, fun h => absurd rfl h⟩
theorem RowW.sp {B : Nat} {w w' : World} (hs : Sp B w w') : ∀ (t : Pt) (b o : Nat), RowW B w t b o → RowW B w' t b o := by
  intro t
  induction t with
  | nil => intro b o _; exact trivial
  | cons h k e r ihk ihe ihr =>
    rintro b o ⟨⟨kd, ps, tx, rt, vn, nm, c0, c1, c2, c3, c4, c5, hn⟩, ⟨ak, nk, ck, c6, k1, k2, k3⟩, ⟨ae, ne, ce, c7, e1, e2, e3⟩, hr⟩
    obtain ⟨v0, d0, q0⟩ := hs.cel _ _ _ c0
    obtain ⟨v1, d1, q1⟩ := hs.cel _ _ _ c1
    obtain ⟨v2, d2, q2⟩ := hs.cel _ _ _ c2
    obtain ⟨v3, d3, q3⟩ := hs.cel _ _ _ c3
    obtain ⟨v4, d4, q4⟩ := hs.cel _ _ _ c4
    obtain ⟨v5, d5, q5⟩ := hs.cel _ _ _ c5
    obtain ⟨v6, d6, q6⟩ := hs.cel _ _ _ c6
    obtain ⟨v7, d7, q7⟩ := hs.cel _ _ _ c7
    obtain ⟨x0, rfl⟩ := q0.int
    obtain ⟨x1, rfl⟩ := q1.int
    obtain ⟨x2, rfl⟩ := q2.string
    obtain ⟨x3, rfl⟩ := q3.bool
    obtain ⟨x5, rfl⟩ := q5.string
    refine ⟨⟨x0, x1, x2, x3, v4, x5, d0, d1, d2, d3, d4, d5, hn.sp hs q4⟩, ?_, ?_, ihr b _ hr⟩
    · rcases q6.slice with rfl | rfl
      · refine ⟨ak, nk, ck, d6, k1, k2, k3.imp id ?_⟩
        rintro ⟨h1, b', o', h2, h3, h4, h5⟩
        exact ⟨h1, b', o', h2, h3, hs.unf _ h4, ihk b' o' h5⟩
      · exact ⟨none, 0, 0, d6, Nat.le_refl _, Nat.zero_le _, .inl rfl⟩
    · rcases q7.slice with rfl | rfl
      · refine ⟨ae, ne, ce, d7, e1, e2, e3.imp id ?_⟩
        rintro ⟨h1, b', o', h2, h3, h4, h5⟩
        exact ⟨h1, b', o', h2, h3, hs.unf _ h4, ihe b' o' h5⟩
      · exact ⟨none, 0, 0, d7, Nat.le_refl _, Nat.zero_le _, .inl rfl⟩
theorem RowW.of {B : Nat} {w : World} {ok : Nat → Prop} (hok : ∀ b, ok b → B ≤ b ∧ UnF w b) : ∀ (t : Pt) (b o : Nat), Row ok w t b o → RowW B w t b o := by
  intro t
  induction t with
  | nil => intro b o _; exact trivial
  | cons h k e r ihk ihe ihr =>
    rintro b o ⟨⟨c0, c1, c2, c3, ⟨v, c4, an, cn, rfl, n1, n2, n3⟩, c5⟩, ⟨ak, ck, c6, k1, k2, k3⟩, ⟨ae, ce, c7, e1, e2, e3⟩, hr⟩
    refine ⟨⟨_, _, _, _, _, _, c0, c1, c2, c3, c4, c5, an, h.names.length, cn, rfl, n1, n2, fun hn => ?_⟩, ⟨ak, k.len, ck, c6, k1, k2, ?_⟩, ⟨ae, e.len, ce, c7, e1, e2, ?_⟩, ihr b _ hr⟩
    · obtain ⟨b', o', ha, hb, hc⟩ := n3 (by intro e; rw [e] at hn; exact hn rfl)
      exact ⟨b', o', ha, (hok b' hb).1, (hok b' hb).2, fun i hi => ⟨h.names[i], hc i _ (List.getElem?_eq_getElem hi)⟩⟩
    · cases k with
      | nil => exact .inl rfl
      | cons h1 k1 e1 r1 =>
        obtain ⟨b', o', ha, hb, hrw⟩ := k3 (by simp)
        exact .inr ⟨rfl, b', o', ha, (hok b' hb).1, (hok b' hb).2, ihk b' o' hrw⟩
    · cases e with
      | nil => exact .inl rfl
      | cons h1 k1 e1 r1 =>
        obtain ⟨b', o', ha, hb, hrw⟩ := e3 (by simp)
        exact .inr ⟨rfl, b', o', ha, (hok b' hb).1, (hok b' hb).2, ihe b' o' hrw⟩
theorem spl8 {B b p : Nat} {w0 w : World} {x0 x1 : Int} {x2 x5 : ByteArray} {x3 : Bool} {a4 a6 a7 : Option Addr} {n4 k4 n6 k6 n7 k7 : Nat} (h : Sp B w0 w) (hB : B ≤ b) (c0 : w.cell? ⟨b, p, none⟩ = some (.int .u8 x0)) (c1 : w.cell? ⟨b, p + 1, none⟩ = some (.int .i64 x1)) (c2 : w.cell? ⟨b, p + 2, none⟩ = some (.string x2)) (c3 : w.cell? ⟨b, p + 3, none⟩ = some (.bool x3)) (c4 : w.cell? ⟨b, p + 4, none⟩ = some (.slice a4 n4 k4)) (c5 : w.cell? ⟨b, p + 5, none⟩ = some (.string x5)) (c6 : w.cell? ⟨b, p + 6, none⟩ = some (.slice a6 n6 k6)) (c7 : w.cell? ⟨b, p + 7, none⟩ = some (.slice a7 n7 k7)) :
    Sp B w0 ((((((((w.setCell ⟨b, p, none⟩ (.int .u8 0)).setCell ⟨b, p + 1, none⟩ (.int .i64 0)).setCell ⟨b, p + 2, none⟩ (.string ⟨#[115, 112, 111, 105, 108, 116]⟩)).setCell ⟨b, p + 3, none⟩ (.bool false)).setCell ⟨b, p + 4, none⟩ (.slice none 0 0)).setCell ⟨b, p + 5, none⟩ (.string ⟨#[]⟩)).setCell ⟨b, p + 6, none⟩ (.slice none 0 0)).setCell ⟨b, p + 7, none⟩ (.slice none 0 0)) := by
  have h0 := h.set hB c0 (u := .int .u8 0) (.inr (.inl ⟨_, _, 0, rfl, rfl⟩))
  have h1 := h0.set hB ((set_far (show p ≠ p + 1 by omega)).trans c1) (u := .int .i64 0) (.inr (.inl ⟨_, _, 0, rfl, rfl⟩))
  have h2 := h1.set hB ((set_far (show p + 1 ≠ p + 2 by omega)).trans ((set_far (show p ≠ p + 2 by omega)).trans c2)) (u := .string ⟨#[115, 112, 111, 105, 108, 116]⟩) (.inr (.inr (.inl ⟨_, _, rfl, rfl⟩)))
  have h3 := h2.set hB ((set_far (show p + 2 ≠ p + 3 by omega)).trans ((set_far (show p + 1 ≠ p + 3 by omega)).trans ((set_far (show p ≠ p + 3 by omega)).trans c3))) (u := .bool false) (.inr (.inr (.inr (.inl ⟨_, _, rfl, rfl⟩))))
  have h4 := h3.set hB ((set_far (show p + 3 ≠ p + 4 by omega)).trans ((set_far (show p + 2 ≠ p + 4 by omega)).trans ((set_far (show p + 1 ≠ p + 4 by omega)).trans ((set_far (show p ≠ p + 4 by omega)).trans c4)))) (u := .slice none 0 0) (.inr (.inr (.inr (.inr ⟨_, _, _, rfl, rfl⟩))))
  have h5 := h4.set hB ((set_far (show p + 4 ≠ p + 5 by omega)).trans ((set_far (show p + 3 ≠ p + 5 by omega)).trans ((set_far (show p + 2 ≠ p + 5 by omega)).trans ((set_far (show p + 1 ≠ p + 5 by omega)).trans ((set_far (show p ≠ p + 5 by omega)).trans c5))))) (u := .string ⟨#[]⟩) (.inr (.inr (.inl ⟨_, _, rfl, rfl⟩)))
  have h6 := h5.set hB ((set_far (show p + 5 ≠ p + 6 by omega)).trans ((set_far (show p + 4 ≠ p + 6 by omega)).trans ((set_far (show p + 3 ≠ p + 6 by omega)).trans ((set_far (show p + 2 ≠ p + 6 by omega)).trans ((set_far (show p + 1 ≠ p + 6 by omega)).trans ((set_far (show p ≠ p + 6 by omega)).trans c6)))))) (u := .slice none 0 0) (.inr (.inr (.inr (.inr ⟨_, _, _, rfl, rfl⟩))))
  have h7 := h6.set hB ((set_far (show p + 6 ≠ p + 7 by omega)).trans ((set_far (show p + 5 ≠ p + 7 by omega)).trans ((set_far (show p + 4 ≠ p + 7 by omega)).trans ((set_far (show p + 3 ≠ p + 7 by omega)).trans ((set_far (show p + 2 ≠ p + 7 by omega)).trans ((set_far (show p + 1 ≠ p + 7 by omega)).trans ((set_far (show p ≠ p + 7 by omega)).trans c7))))))) (u := .slice none 0 0) (.inr (.inr (.inr (.inr ⟨_, _, _, rfl, rfl⟩))))
  exact h7
def SplP (B : Nat) (w : World) (e : Ending) (w' : World) : Prop := e = .returned (.tuple #[]) ∧ Sp B w w'
def SplSaid (m : Nat) : Prop := ∀ (x : Pt), x.cnt < m → ∀ (B : Nat) (a : Option Addr) (n c : Nat) (w : World), n ≤ c → c ≤ maxLen → (n = 0 ∨ (n = x.len ∧ ∃ b o, a = some ⟨b, o, none⟩ ∧ B ≤ b ∧ UnF w b ∧ RowW B w x b o)) → Calls Tryz.prog 18 #[.slice a n c] w (SplP B w)
set_option maxRecDepth 100000 in
set_option maxHeartbeats 40000000 in
theorem spl_step (m : Nat) (ih : SplSaid m) : SplSaid (m + 1) := by
  intro x hx B a n c w h1 h2 h3
  by_cases h0 : n = 0
  · subst h0
    go_enter Tryz.func18, Tryz.ntmps18
    go_wp2_with fail
    go_loopw [2, 3] (fun v2 v3 wr => v2 = .int .i64 0 ∧ wr = w) (fun _ _ _ => 0)
    case atStart => exact ⟨rfl, rfl⟩
    case round =>
      obtain ⟨rfl, rfl⟩ := hrel
      go_wp2_with fail
      go_end0
      exact ⟨rfl, Sp.refl _ _⟩
  obtain ⟨hn, b, o, rfl, hB, hU, hR⟩ := h3.resolve_left h0
  subst hn
  have HR := Lib.hid hR
  have HU := Lib.hid hU
  have IH := Lib.hid ih
  have hmx : maxLen ≤ 9223372036854775807 := by decide
  obtain ⟨M, hM⟩ : ∃ M, maxLen = M := ⟨_, rfl⟩
  rw [hM] at hmx h2
  have HM := Lib.hid hM
  clear hM
  clear hR hU ih h3
  go_enter Tryz.func18, Tryz.ntmps18
  go_wp2_with fail
  go_loopw [2, 3] (fun v2 v3 wr => ∃ (i : Nat) (r : Pt), v2 = .int .i64 (i : Nat) ∧ i + r.len = x.len ∧ r.cnt ≤ x.cnt ∧ Hid (RowW B wr r b (o + i * 8)) ∧ Hid (Sp B w wr)) (fun v _ _ => x.len - (intOf v).toNat)
  case atStart => exact ⟨0, x, rfl, by omega, Nat.le_refl _, by rw [Nat.zero_mul, Nat.add_zero]; exact HR, Sp.refl _ _⟩
  case round =>
    obtain ⟨i, r, rfl, hi, hrc, HRr, HS⟩ := hrel
    cases r with
    | nil =>
      simp only [Pt.len] at hi
      have hge : ¬ (i : Int) < (x.len : Int) := by omega
      go_wp2_with fail
      go_end0
      exact ⟨rfl, HS.out⟩
    | cons h k e r =>
      simp only [Pt.len] at hi
      simp only [Pt.cnt] at hrc
      have hlt : (i : Int) < (x.len : Int) := by omega
      have hi0 : (0 : Int) ≤ (i : Int) := by omega
      go_wp2_with fail
      go_loopw [3] (fun v3 wq => ∃ j : Nat, v3 = .int .i64 (j : Nat) ∧ j ≤ M ∧ Hid (RowW B wq (.cons h k e r) b (o + i * 8)) ∧ Hid (Sp B w wq)) (fun v _ => M + 1 - (intOf v).toNat)
      case atStart => exact ⟨0, rfl, Nat.zero_le _, HRr, HS⟩
      case round =>
        obtain ⟨j, rfl, hj, HRq, HSq⟩ := hrel
        clear HRr HS
        obtain ⟨⟨kd, ps, tx, rt, vn, nm, c0, c1, c2, c3, c4, c5, an, nn, cn, rfl, n1, n2, n3⟩, ⟨ak, nk, ck, c6, k1, k2, k3⟩, ⟨ae, ne, ce, c7, e1, e2, e3⟩, hr⟩ := HRq.out
        rw [HM.out] at n2
        have hj0 : (0 : Int) ≤ (j : Int) := by omega
        by_cases hjn : j < nn
        · have hjI : (j : Int) < (nn : Int) := by omega
          obtain ⟨b2, o2, rfl, hB2, hU2, hs2⟩ := n3 (by omega)
          obtain ⟨s2, hc2⟩ := hs2 j hjn
          have hz2 := hU2 (o2 + j)
          have HS3 := Lib.hid (HSq.out.set hB2 hc2 (.inr (.inr (.inl ⟨_, ⟨#[115, 112, 111, 105, 108, 116]⟩, rfl, rfl⟩))))
          have HR3 := Lib.hid (RowW.sp ((Sp.refl B wr).set hB2 hc2 (.inr (.inr (.inl ⟨_, ⟨#[115, 112, 111, 105, 108, 116]⟩, rfl, rfl⟩)))) _ b _ HRq.out)
          have hjm : j + 1 ≤ M := by omega
          clear hr k3 e3 n3 hs2 HRq HSq
          go_wp2_with fail
          exact ⟨⟨j + 1, by go_num, hjm, HR3, HS3⟩, by simp [intOf]; omega⟩
        · have hjI : ¬ (j : Int) < (nn : Int) := by omega
          have KC : Hid (Calls Tryz.prog 18 #[.slice ak nk ck] wr (SplP B wr)) := IH.out k (by omega) B ak nk ck wr k1 k2 k3
          have HUq := Lib.hid (HSq.out.unf b HU.out)
          clear hr k3 e3 n3 hjn
          go_wp2_with fail
          refine KC.out.mono ?_
          rintro e4 w4 ⟨rfl, hs4⟩
          have HR4 := Lib.hid (RowW.sp hs4 _ b _ HRq.out)
          have HS4 := Lib.hid (HSq.out.trans hs4)
          clear HRq HSq hs4 KC c0 c1 c2 c3 c4 c5 c6 c7 k1 k2 e1 e2 n1 n2
          obtain ⟨-, -, ⟨ae4, ne4, ce4, c7, e1, e2, e3⟩, -⟩ := HR4.out
          have EC : Hid (Calls Tryz.prog 18 #[.slice ae4 ne4 ce4] w4 (SplP B w4)) := IH.out e (by omega) B ae4 ne4 ce4 w4 e1 e2 e3
          clear e3
          go_wp2_with fail
          refine EC.out.mono ?_
          rintro e5 w5 ⟨rfl, hs5⟩
          have HR5 := Lib.hid (RowW.sp hs5 _ b _ HR4.out)
          have HS5 := Lib.hid (HS4.out.trans hs5)
          clear HR4 HS4 hs5 EC c7 e1 e2
          obtain ⟨⟨kd5, ps5, tx5, rt5, vn5, nm5, c0, c1, c2, c3, c4, c5, an5, nn5, cn5, rfl, n1, n2, -⟩, ⟨ak5, nk5, ck5, c6, -⟩, ⟨ae5, ne5, ce5, c7, -⟩, hr5⟩ := HR5.out
          have hz5 : ∀ j, w5.frozen? ⟨b, j, none⟩ = false := HS5.out.unf b HU.out
          have HS6 := Lib.hid (spl8 HS5.out hB c0 c1 c2 c3 c4 c5 c6 c7)
          have HR6 := Lib.hid (RowW.sp (spl8 (Sp.refl B w5) hB c0 c1 c2 c3 c4 c5 c6 c7) r b (o + i * 8 + 8) hr5)
          clear hr5 HR5 HS5
          go_wp2_with fail
          exact ⟨⟨i + 1, r, by go_num, by omega, by omega, by rw [show o + (i + 1) * 8 = o + i * 8 + 8 by omega]; exact HR6, HS6⟩, by simp [intOf]; omega⟩
theorem spl_all : ∀ m, SplSaid m
  | 0 => fun x hx => by omega
  | m + 1 => spl_step m (spl_all m)
/-- Parts that lie from block B on, none of it frozen. -/
theorem spoil_calls (B : Nat) (x : Pt) (v : Value) (w : World) (h : Parts (fun b => B ≤ b ∧ b < w.heap.size ∧ UnF w b) w v x) : Calls Tryz.prog 18 #[v] w fun e w' => e = .returned (.tuple #[]) ∧ Below B w w' := by
  obtain ⟨a, c, rfl, h1, h2, h3⟩ := h
  refine (spl_all (x.cnt + 1) x (Nat.lt_succ_self _) B a x.len c w h1 h2 ?_).mono fun e w' hp => ⟨hp.1, hp.2.bel⟩
  cases x with
  | nil => exact .inl rfl
  | cons hd k e r =>
    obtain ⟨b, o, ha, hb, hr⟩ := h3 (by simp)
    exact .inr ⟨rfl, b, o, ha, hb.1, hb.2.2, RowW.of (fun b hb => ⟨hb.1, hb.2.2⟩) _ b o hr⟩
end Go.Proofs.YtdgcdjpjnhlihaaGreatDoor
set_option linter.unusedVariables false
set_option linter.unusedSimpArgs false
namespace Go.Proofs.YtdgcdjpjnhlihaaGreatDoor
open Go.RowKit Go.Extern.Stop Go.Stop Go.Extern

theorem is_typeOf (v : Value) (w : World) : (Extern.ReflectliteType.typeOf #[.iface 29 v]).run Tryz.prog w = .ok (.iface 153 (.agg #[.pointer (some ⟨4, 29, none⟩)])) w := by kernel_rfl
theorem is_comparable (w : World) : ((Extern.ReflectliteType.method fun t => do Go.Extern.Rtype.noPackHeld "Comparable" t; pure (.bool (← typeInfo t).comparable)) #[.agg #[.pointer (some ⟨4, 29, none⟩)]]).run Tryz.prog w = .ok (.bool true) w := by kernel_rfl
theorem is_methodComparable (v : Value) (w : World) : (Go.method 343 153 v "Comparable").run Tryz.prog w = .ok (175, v) w := by kernel_rfl
theorem is_noIs (v : Value) (xT : TypeId) (w : World) : (Instr.typeAssert (.iface 48 v) xT 165 true).run Tryz.prog w = .ok (.tuple #[.nilIface, .bool false]) w := run_typeAssert_lacksB Tryz.underlying165 (by kernel_rfl) (by kernel_rfl) v xT w
theorem is_hasUnwrap (v : Value) (xT : TypeId) (w : World) : (Instr.typeAssert (.iface 48 v) xT 160 true).run Tryz.prog w = .ok (.tuple #[.iface 48 v, .bool true]) w := run_typeAssert_hasB Tryz.underlying160 (by kernel_rfl) v xT w
set_option maxRecDepth 100000 in
set_option maxHeartbeats 4000000 in
theorem is_calls (bf n p : Nat) (w : World) (hf : w.heap[bf]? = some (failO n p)) :
    Calls Tryz.prog 21 #[failV bf, .iface 29 (.int .i64 (n : Nat))] w fun e w' => e = .returned (.bool true) ∧ w' = w := by
  unfold failV
  have c2 : w.cell? ⟨bf, 2, none⟩ = some (.iface 29 (.int .i64 (n : Nat))) := by rw [cell_of_heap' hf]; rfl
  have h8 := @run_callFunc_extern Tryz.prog 51 _ ReflectliteType.typeOf Tryz.func51 (by kernel_rfl) (by kernel_rfl) (by kernel_rfl) (by kernel_rfl)
  have h32 := @run_callFunc_extern Tryz.prog 175 _ (Extern.ReflectliteType.method fun t => do Go.Extern.Rtype.noPackHeld "Comparable" t; pure (.bool (← typeInfo t).comparable)) Tryz.func175 (by kernel_rfl) (by kernel_rfl) (by kernel_rfl) (by kernel_rfl)
  have tT := is_typeOf
  have cT : ∀ w : World, (callFunc 175 #[.agg #[.pointer (some ⟨4, 29, none⟩)]]).run Tryz.prog w = .ok (.value (.bool true)) w := fun w => (h32 _ w).trans (by rw [is_comparable]; rfl)
  clear h32
  have mR := is_methodComparable
  have nW := is_noIs
  have uW := is_hasUnwrap
  have mU := as_methodUnwrap ⟨bf, 0, none⟩
  have hn1 := run_eql_iface_nil (P := Tryz.prog) w (tx := 48) (.pointer (some ⟨bf, 0, none⟩)) Tryz.underlying36
  have hn2 := run_eql_iface_nil (P := Tryz.prog) w (tx := 29) (.int .i64 (n : Nat)) Tryz.underlying36
  have heq := Lib.run_eql_iface_int (P := Tryz.prog) (k := .i64) w (n : Nat) (n : Nat) Tryz.underlying36 (tx := 29) (by kernel_rfl) Tryz.underlying29
  rw [beq_self_eq_true] at heq
  have hty := run_eql_iface_types (P := Tryz.prog) 48 29 (.pointer (some ⟨bf, 0, none⟩)) (.int .i64 (n : Nat)) Tryz.underlying36 (by decide) w
  go_enter Tryz.func21, Tryz.ntmps21
  go_wp2
  refine wp_loop_rounds 2 ?_
  rw [rounds_succ]
  go_wp2
  rw [rounds_succ]
  go_wp2
  go_ret
  exact ⟨rfl, rfl⟩
theorem as_none (t : Addr) (T : TypeId) (w : World) : Calls Tryz.prog 20 #[.nilIface, .iface T (.pointer (some t))] w fun e w' => e = .returned (.bool false) ∧ w' = w := by
  go_enter Tryz.func20, Tryz.ntmps20
  go_wp2
  go_ret
  exact ⟨rfl, rfl⟩
end Go.Proofs.YtdgcdjpjnhlihaaGreatDoor
