/-
  Slices of bytes that the call makes itself: the conversion to a text. The condition: at most 2 to the 47th bytes.
-/
/-
  The contract of lacunaref19.print. The condition: parts of a right form; what is written takes at most 2 to the 24th bytes.
-/
import Derived.Test.YtdgcdjpjnhlihaaGreatDoorMgLib
import Derived.Test.YtdgcdjpjnhlihaaGreatDoorMgMath
import Derived.WalkKit
import Derived.WalkSpells
import Derived.WalkLawsBesides
import Derived.Lib.Hide
import Derived.Outline
import Derived.Deep.RegionWith
import Derived.Deep.RegionLaw
import Derived.Laws.BytesArg
import Derived.Lib.BufferWrite
import Derived.Lib.AppendStr
import Derived.Test.YtdgcdjpjnhlihaaGreatDoorMgTq7
import Derived.Test.YtdgcdjpjnhlihaaGreatDoorMgTbd
set_option linter.unusedVariables false
namespace Go.Proofs.YtdgcdjpjnhlihaaGreatDoor
open Go.RowKit

/-- A slice of bytes of the call's own, from block B on, that holds the bytes l. -/
def OwnB (B : Nat) (v : Value) (l : List UInt8) (w : World) : Prop := w.ownsRow B 5 1 v l.length (Lib.byteCells l)

theorem OwnB.nil (B : Nat) (w : World) : OwnB B (.slice none 0 0) [] w := World.ownsRow_nil _ _ _ _
theorem OwnB.alloc {B : Nat} {v : Value} {l : List UInt8} {w : World} (h : OwnB B v l w) (o : Obj) : OwnB B v l (w.alloc o) := World.ownsRow.alloc h o
theorem OwnB.drew {B : Nat} {v : Value} {l : List UInt8} {w : World} (h : OwnB B v l w) : OwnB B v l w.drew := h

theorem OwnB.below {B : Nat} {v : Value} {l : List UInt8} {w w' w0 : World} (h : OwnB B v l w) (hb : Below B w0 w) (hB : B ≤ w.heap.size) (hg : w.grownBy w' v.ownBlock) : Below B w0 w' :=
  hb.grown hg hB (fun k hk => (World.ownsRow.lt h k hk).1)

theorem OwnB.shape {B : Nat} {v : Value} {l : List UInt8} {w : World} (h : OwnB B v l w) : ∃ a c, v = .slice a l.length c := by
  rcases h.2 with ⟨rfl, hn⟩ | ⟨g, cap, cur, rfl, _⟩
  · exact ⟨none, 0, by rw [hn]⟩
  · exact ⟨_, _, rfl⟩

theorem OwnB.text {B : Nat} {v : Value} {l : List UInt8} {w : World} (h : OwnB B v l w) : (convert 42 9 v).run Tryz.prog w = .ok (.string ⟨l.toArray⟩) w := by
  rcases h.2 with ⟨rfl, hn⟩ | ⟨g, cap, cur, rfl, _⟩
  · have hl : l = [] := by simpa using hn
    subst hl
    rw [run_convert_bytes_nil w 42 5 Tryz.underlying42 Tryz.underlying5 0 0 9 Tryz.underlying9]
    rfl
  · have hc := World.ownsRow.cells h (g := g) rfl
    have := run_convert_bytes_arg (P := Tryz.prog) w 42 5 Tryz.underlying42 Tryz.underlying5 g 0 l.length cap (l.map fun b => (b.toNat : Int)) (by simp) (by
      intro i hi
      have h1 := hc i (.int .u8 (l[i].toNat : Int)) (by simp [Lib.byteCells, hi])
      have hadd : (⟨g, 0, none⟩ : Addr).add i = ⟨g, i, none⟩ := by unfold Addr.add; split <;> simp_all
      rw [hadd] at h1
      rw [Nat.zero_add, h1]
      simp [List.getD, hi]) 9 Tryz.underlying9
    rw [this]
    have e : strOfNums (l.map fun b => (b.toNat : Int)) = ⟨l.toArray⟩ := by
      unfold strOfNums
      rw [List.map_map]
      have e2 : ∀ f : UInt8 → UInt8, (∀ b, f b = b) → l.map f = l := fun f hf => by
        conv => rhs; rw [← List.map_id l]
        apply List.map_congr_left
        intro b _
        exact hf b
      rw [e2 _ (fun b => by simp)]
    rw [e]

end Go.Proofs.YtdgcdjpjnhlihaaGreatDoor
set_option linter.unusedVariables false
set_option linter.unusedSimpArgs false
namespace Go.Proofs.YtdgcdjpjnhlihaaGreatDoor
open Go.RowKit Go.Shelf
attribute [local go_sem ↓] Go.wp_at_zero Go.wp_at_succ

theorem str_bytes (s : ByteArray) : Lib.strCells s = Lib.byteCells (bl s) := rfl
/-- append of a text's bytes to a slice of the call's own; a block of another type stays. -/
theorem app_s {ops : Array Oper} {rest : List Oper} {o : Oper} {a : Act} {w : World} {Q : Exit → Act → World → Prop} (hgd : o.guard = none) (sl x : Operand)
    (ho : o.op = .call { callee := .builtin .append, args := #[sl, x], argTypes := #[42, 9] })
    (B : Nat) (v : Value) (l : By) (hs : a.eval sl = v) (hown : OwnB B v l w) (s : ByteArray) (hx : a.eval x = .string s) (hlen : l.length + s.size ≤ 16777216) (hB : B ≤ w.heap.size)
    (P : Nat) (cs : Array Value) (hP : w.heap[P]? = some (.cells cs 58 (0, 0)))
    (h : ∀ v' w', OwnB B v' (l ++ bl s) w' → Below B w w' → w'.heap[P]? = some (.cells cs 58 (0, 0)) → wpList Tryz.prog ops Q rest (a.put o.dst v') w') : wpList Tryz.prog ops Q (o :: rest) a w := by
  obtain ⟨i0, hi, hz0, hz1, hz2⟩ := info_parts Lb.extra.infoByte
  refine Lib.wpList_append_own_string w hgd sl x 42 9 ho B 5 i0 Tryz.underlying42 Tryz.underlying9 hi hz0 hz1 hz2 v l.length (Lib.byteCells l) hs hown s hx (by unfold maxLen; omega) (by omega) hB ?_
  intro v' w' h1 h2 _
  refine h v' w' ?_ ((Below.refl B w).grown h2 hB (fun k hk => (World.ownsRow.lt hown k hk).1)) ?_
  · unfold OwnB
    rw [Lib.byteCells_append, List.length_append]
    exact h1
  · refine (h2.block P (lt_of_block hP) (fun e => ?_)).trans hP
    rcases hown.2 with ⟨rfl, -⟩ | ⟨g, cap, cur, rfl, -, hg, -⟩
    · cases e
    · have : P = g := by simpa [Value.ownBlock] using e
      rw [← this, hP] at hg
      injection hg with hg
      injection hg with _ hg
      revert hg; decide
/-- The same as a step of a region that draws its order. -/
theorem step_app_s {ops : Array Oper} {o : Oper} {a : Act} {w : World} {K : Act → World → Prop} {Q : Exit → Act → World → Prop} {E : Prop} (hgd : o.guard = none) (sl x : Operand)
    (ho : o.op = .call { callee := .builtin .append, args := #[sl, x], argTypes := #[42, 9] })
    (B : Nat) (v : Value) (l : By) (hs : a.eval sl = v) (hown : OwnB B v l w) (s : ByteArray) (hx : a.eval x = .string s) (hlen : l.length + s.size ≤ 16777216) (hB : B ≤ w.heap.size)
    (P : Nat) (cs : Array Value) (hP : w.heap[P]? = some (.cells cs 58 (0, 0)))
    (h : ∀ v' w', OwnB B v' (l ++ bl s) w' → Below B w w' → w'.heap[P]? = some (.cells cs 58 (0, 0)) → K (a.put o.dst v') w') :
    if Region.wanted o (yielded ops a.tmps) = true then Oper.wp Tryz.prog o a w K Q else E := by
  have hw : Region.wanted o (yielded ops a.tmps) = true := by simp [Region.wanted, hgd]
  rw [if_pos hw]
  obtain ⟨i0, hi, hz0, hz1, hz2⟩ := info_parts Lb.extra.infoByte
  obtain ⟨v', w', hr, h1, h2, -⟩ := Lib.run_append_own_string (P := Tryz.prog) w B 42 9 o.type 5 i0 Tryz.underlying42 Tryz.underlying9 hi hz0 hz1 hz2 v l.length (Lib.byteCells l) hown s (by unfold maxLen; omega) (by omega) hB
  unfold Oper.wp execOp
  simp only [ho, resolve, invoke, builtin, Sem.run_bind, Sem.run_pure, Result.andThen_ok, List.map_toArray, List.map_cons, List.map_nil, hs, hx, hr]
  refine h v' w' ?_ ((Below.refl B w).grown h2 hB (fun k hk => (World.ownsRow.lt hown k hk).1)) ?_
  · unfold OwnB
    rw [Lib.byteCells_append, List.length_append]
    exact h1
  · refine (h2.block P (lt_of_block hP) (fun e => ?_)).trans hP
    rcases hown.2 with ⟨rfl, -⟩ | ⟨g, cap, cur, rfl, -, hg, -⟩
    · cases e
    · have : P = g := by simpa [Value.ownBlock] using e
      rw [← this, hP] at hg
      injection hg with hg
      injection hg with _ hg
      revert hg; decide
theorem OwnB.bel {B : Nat} {v : Value} {l : By} {w w' : World} (h : OwnB B v l w) (hb : Below w.heap.size w w') : OwnB B v l w' := by
  refine ⟨h.1, ?_⟩
  rcases h.2 with h | ⟨g, cap, cur, h1, h2, h3, h4⟩
  · exact .inl h
  · exact .inr ⟨g, cap, cur, h1, h2, (hb.block g (lt_of_block h3)).trans h3, h4⟩
theorem way_len (root : Bool) (l : List ByteArray) : l.length + nsz l ≤ (wayS root (bls l)).length := by
  unfold wayS
  split
  · rename_i h
    have : l = [] := by have := h.1; unfold bls at this; simpa using this
    subst this; simp [nsz]
  · rw [List.length_append, dots_wt]; omega
theorem OwnB.shp {B : Nat} {v : Value} {l : List UInt8} {w : World} (h : OwnB B v l w) : ∃ a n c, v = .slice a n c := by
  obtain ⟨a, c, hv⟩ := h.shape
  exact ⟨a, _, c, hv⟩
def PnP (x : Pt) (w : World) (e : Ending) (w' : World) : Prop := e = .returned (.string (mkB (x.src false))) ∧ Below w.heap.size w w'
def PnSaid (n : Nat) : Prop := ∀ (x : Pt), x.cnt < n → ∀ (fr : Bool) (v : Value) (w : World), x.sm → x.form fr = true → x.cnt ≤ 16777216 → (x.src false).length ≤ 16777216 → Parts (· < w.heap.size) w v x → Calls Tryz.prog 60 #[v] w (PnP x w)
/-- What the loop knows of the part ahead. -/
def AheadR (a : Option Addr) (w : World) (k : Nat) (af : Bool) : Prop :=
  match k with
  | 0 => af = false
  | j + 1 => ∃ b o kd : Nat, a = some ⟨b, o, none⟩ ∧ b < w.heap.size ∧ w.cell? ⟨b, o + j * 8, none⟩ = some (.int .u8 (kd : Nat)) ∧ af = decide (kd = 1)
set_option maxRecDepth 100000 in
set_option maxHeartbeats 40000000 in
theorem pn_step (n : Nat) (ih : PnSaid n) : PnSaid (n + 1) := by
  intro x hn fr v w hsm hfm hcx hlx hx
  obtain ⟨a, c, rfl, h1, h2, h3⟩ := hx.lt
  have HX : Hid (Rest (· < w.heap.size) a w x 0) := fun hne => by
    obtain ⟨b, o, q1, q2, q3⟩ := h3 hne
    exact ⟨b, o, q1, q2, by rw [Nat.zero_mul, Nat.add_zero]; exact q3⟩
  have HSM := Lib.hid hsm
  have HFM := Lib.hid hfm
  have HLX := Lib.hid hlx
  have IH := Lib.hid ih
  have hlc := len_cnt x
  clear h3 hx h1 h2 ih hsm hfm hlx
  go_enter Tryz.func60, Tryz.ntmps60
  go_wp2_with fail
  go_loopw [3, 4] (fun v3 v4 wr => ∃ (k : Nat) (oa : Option Addr) (on oc : Nat) (l' : By) (r : Pt) (af : Bool), v3 = .slice oa on oc ∧ v4 = .int .i64 (k : Nat) ∧ k + r.len = x.len ∧ Hid (OwnB w.heap.size (.slice oa on oc) l' wr) ∧ Hid (l' ++ r.src af = x.src false) ∧ Hid (AheadR a w k af) ∧ Hid (Rest (· < w.heap.size) a w r k) ∧ r.cnt ≤ x.cnt ∧ Hid r.sm ∧ Hid (r.form fr = true) ∧ Hid (Below w.heap.size w wr)) (fun _ i _ => x.len - (intOf i).toNat)
  case atStart => exact ⟨0, none, 0, 0, [], x, false, rfl, rfl, by omega, OwnB.nil _ _, rfl, rfl, HX, Nat.le_refl _, HSM, HFM, Below.refl _ _⟩
  case round =>
    obtain ⟨k, oa, on, oc, l', r, af, rfl, rfl, hk, HO, HE, HAH, HR, hcn, HSR, HFR, HB⟩ := hrel
    cases r with
    | nil =>
      simp only [Pt.len] at hk
      have hge : ¬ (k : Int) < (x.len : Int) := by omega
      have hconv := HO.out.text
      have HL : Hid (l' = x.src false) := by have := HE.out; rwa [Pt.src, List.append_nil] at this
      go_wp2_with fail
      go_ret
      exact ⟨by rw [← HL.out]; rfl, HB.out⟩
    | cons h kd el r =>
      simp only [Pt.len] at hk
      simp only [Pt.cnt] at hcn
      have hkt : (k : Int) < (x.len : Int) := by omega
      have hk0 : (0 : Int) ≤ (k : Int) := by omega
      obtain ⟨hsh, hsk, hse, hsr⟩ := HSR.out
      have HSR2 := Lib.hid hsr
      have hff := HFR.out
      simp only [Pt.form, Bool.and_eq_true] at hff
      obtain ⟨⟨hho, hke⟩, hfr⟩ := hff
      have HFR2 := Lib.hid hfr
      have HHO := Lib.hid hho
      have HKE := Lib.hid hke
      obtain ⟨b, o, rfl, hb, hrow⟩ := HR.out (by simp)
      have HRS : Hid (Rest (· < w.heap.size) (some ⟨b, o, none⟩) w r (k + 1)) := fun _ => ⟨b, o, rfl, hb, by have := hrow.2.2.2; rwa [show o + k * 8 + 8 = o + (k + 1) * 8 by omega] at this⟩
      obtain ⟨⟨g0, g1, g2, g3, ⟨vn, g4, hstr⟩, g5⟩, ⟨ak, ck, g6, k1, k2, k3⟩, ⟨ae, ce, g7, e1, e2, e3⟩, -⟩ := hrow
      have hsw := HB.out.size
      have KC : Hid (∀ W, Below w.heap.size w W → Pt.form false kd = true → (kd.src false).length ≤ 16777216 → Calls Tryz.prog 60 #[.slice ak kd.len ck] W fun e w' => e = .returned (.string (mkB (kd.src false))) ∧ Below W.heap.size W w') := fun W hW hf hl =>
        IH.out kd (by omega) false _ W hsk hf (by omega) hl ((Parts.kept ⟨ak, ck, rfl, k1, k2, k3⟩ (fun b hb => hW.block b hb.2)).mono (fun b hb => Nat.lt_of_lt_of_le hb.2 hW.size))
      have EC : Hid (∀ W, Below w.heap.size w W → Pt.form false el = true → (el.src false).length ≤ 16777216 → Calls Tryz.prog 60 #[.slice ae el.len ce] W fun e w' => e = .returned (.string (mkB (el.src false))) ∧ Below W.heap.size W w') := fun W hW hf hl =>
        IH.out el (by omega) false _ W hse hf (by omega) hl ((Parts.kept ⟨ae, ce, rfl, e1, e2, e3⟩ (fun b hb => hW.block b hb.2)).mono (fun b hb => Nat.lt_of_lt_of_le hb.2 hW.size))
      have WC : Hid (∀ W, Below w.heap.size w W → 1 + h.names.length + nsz h.names ≤ 16777216 → Calls Tryz.prog 105 #[.agg #[.bool h.root, vn]] W fun e w' => e = .returned (.string (mkB (wayS h.root (bls h.names)))) ∧ Below W.heap.size W w') := fun W hW hl =>
        wayR_calls h.root h.names hl vn W ((hstr.kept (fun b hb => hW.block b hb.2)).mono (fun b hb => Nat.lt_of_lt_of_le hb.2 hW.size))
      have HLT : Hid (l'.length + (pieceB h kd el af).length ≤ 16777216) := by
        have h1 := HLX.out
        have h2 := congrArg List.length HE.out
        rw [src_cons] at h2
        simp only [List.length_append] at h2
        unfold Hid; omega
      have HE1 : Hid (l' ++ pieceB h kd el af ++ r.src (decide (h.kind = 1)) = x.src false) := by have := HE.out; rw [src_cons, ← List.append_assoc] at this; exact this
      have HAN : Hid (AheadR (some ⟨b, o, none⟩) w (k + 1) (decide (h.kind = 1))) := ⟨b, o, h.kind, rfl, hb.2, g0, rfl⟩
      have HA : Hid (Below wr.heap.size wr (wr.alloc (.cells (pCells h vn (.slice ak kd.len ck) (.slice ae el.len ce)) 58))) := (Below.refl _ wr).alloc (Nat.le_refl _) _
      have HT : Hid ((wr.alloc (.cells (pCells h vn (.slice ak kd.len ck) (.slice ae el.len ce)) 58)).heap[wr.heap.size]? = some (.cells (pCells h vn (.slice ak kd.len ck) (.slice ae el.len ce)) 58 (0, 0))) := heap_alloc_new wr _
      have HO0 : Hid (OwnB w.heap.size (.slice oa on oc) l' (wr.alloc (.cells (pCells h vn (.slice ak kd.len ck) (.slice ae el.len ce)) 58))) := HO.out.alloc _
      obtain ⟨an, cn, rfl, n1, n2, -⟩ := hstr
      have cc : ∀ j y, w.cell? ⟨b, o + k * 8 + j, none⟩ = some y → wr.cell? ⟨b, o + k * 8 + j, none⟩ = some y := fun j y hy => (HB.out.cell (p := ⟨b, _, none⟩) hb.2).trans hy
      have p0 := cc 0 _ g0
      have p1 := cc 1 _ g1
      have p2 := cc 2 _ g2
      have p3 := cc 3 _ g3
      have p4 := cc 4 _ g4
      have p5 := cc 5 _ g5
      have p6 := cc 6 _ g6
      have p7 := cc 7 _ g7
      rw [Nat.add_zero] at p0
      have hbl : b < wr.heap.size := Nat.lt_of_lt_of_le hb.2 HB.out.size
      have HKI := Lib.hid hk
      have hki : k + 1 + r.len ≤ x.len := by omega
      clear k3 e3 g0 g1 g2 g3 g4 g5 g6 g7 cc hk hsk hse hsr hfr hho hke hsh
      unfold pCells at HA HT HO0
      go_upto_region 6 with (fail)
      generalize hWW : World.alloc wr _ = W0 at *
      clear hWW p0 p1 p2 p3 p4 p5 p6 p7
      have HB0 : Hid (Below w.heap.size w W0) := HB.out.trans (HA.out.mono hsw)
      have HXC : Hid (∀ W : World, W.heap[wr.heap.size]? = some (.cells #[.int .u8 (h.kind : Nat), .int .i64 h.pos, .string h.text, .bool h.root, .slice an h.names.length cn, .string h.name, .slice ak kd.len ck, .slice ae el.len ce] 58 (0, 0)) →
          W.cell? ⟨wr.heap.size, 0, none⟩ = some (.int .u8 (h.kind : Nat)) ∧ W.cell? ⟨wr.heap.size, 2, none⟩ = some (.string h.text) ∧ W.cell? ⟨wr.heap.size, 3, none⟩ = some (.bool h.root) ∧ W.cell? ⟨wr.heap.size, 4, none⟩ = some (.slice an h.names.length cn) ∧
          W.cell? ⟨wr.heap.size, 5, none⟩ = some (.string h.name) ∧ W.cell? ⟨wr.heap.size, 6, none⟩ = some (.slice ak kd.len ck) ∧ W.cell? ⟨wr.heap.size, 7, none⟩ = some (.slice ae el.len ce)) := fun W hW => by
        have q := fun j => cell_of_heap' hW j
        exact ⟨(q 0).trans rfl, (q 2).trans rfl, (q 3).trans rfl, (q 4).trans rfl, (q 5).trans rfl, (q 6).trans rfl, (q 7).trans rfl⟩
      -- the round's end
      have FIN : Hid (∀ (v' : Value) (W : World), OwnB w.heap.size v' (l' ++ pieceB h kd el af) W → Below w.heap.size w W → ∃ (oa : Option Addr) (on oc : Nat), v' = .slice oa on oc ∧ Hid (OwnB w.heap.size (.slice oa on oc) (l' ++ pieceB h kd el af) W)) := fun v' W ho _ => by
        obtain ⟨a, c, rfl⟩ := ho.shape
        exact ⟨_, _, _, rfl, ho⟩
      obtain ⟨x0, x2, x3, x4, x5, x6, x7⟩ := HXC.out _ HT.out
      by_cases h1 : h.kind = 1
      · have HPI : Hid (pieceB h kd el af = (if af then noteS else []) ++ bl h.text) := if_pos h1
        have hlt1 : l'.length + (if af then noteS else []).length + h.text.size ≤ 16777216 := by
          have := HLT.out
          rw [HPI.out, List.length_append] at this
          have e : (bl h.text).length = h.text.size := rfl
          omega
        rw [h1] at x0
        have HK1 := Lib.hid h1
        clear h1
        rcases Nat.eq_zero_or_pos k with hz | hp
        · obtain rfl : af = false := by have := HAH.out; rw [hz] at this; exact this
          have hz2 : ¬ (0 : Int) < (k : Int) := by omega
          have hl2 : l'.length + h.text.size ≤ 16777216 := by simpa using hlt1
          clear hz hlt1
          go_wp2_with (at_builtin; refine app_s rfl _ _ rfl w.heap.size _ (l') rfl HO0.out h.text rfl hl2 HB0.out.size wr.heap.size _ HT.out ?_; intro v' w1 ho hb ht; obtain ⟨a1, m1, c1, rfl⟩ := ho.shp; have HO1 : Hid (OwnB w.heap.size (.slice a1 m1 c1) (l' ++ bl (h.text)) w1) := ho; have HB1 : Hid (Below w.heap.size w w1) := HB0.out.trans hb; have HT1 := Lib.hid ht; clear ho hb ht)
          have HE2 : Hid (l' ++ bl h.text ++ r.src (decide (h.kind = 1)) = x.src false) := by
            have := HE1.out
            rw [HPI.out] at this
            unfold Hid; rw [← this]; simp
          exact ⟨⟨k + 1, a1, _, c1, _, r, _, rfl, by go_num, by have := HKI.out; omega, HO1, HE2, HAN, HRS, by omega, HSR2, HFR2, HB1⟩, by simp [intOf]; omega⟩
        · obtain ⟨j, hj⟩ : ∃ j, k = j + 1 := ⟨k - 1, by omega⟩
          obtain ⟨b', o', q, hbo, hb', hq, haf⟩ : ∃ b' o' q : Nat, (some ⟨b, o, none⟩ : Option Addr) = some ⟨b', o', none⟩ ∧ b' < w.heap.size ∧ w.cell? ⟨b', o' + j * 8, none⟩ = some (.int .u8 (q : Nat)) ∧ af = decide (q = 1) := by have := HAH.out; rw [hj] at this; exact this
          obtain ⟨rfl, rfl⟩ : b = b' ∧ o = o' := by injection hbo with e; injection e with e1 e2; exact ⟨e1, e2⟩
          have hj2 : (k : Int) - 1 = (j : Int) := by omega
          have hp2 : (0 : Int) < (k : Int) := by omega
          have hj3 : (j : Int) < (x.len : Int) := by omega
          have hj4 : (0 : Int) ≤ (j : Int) := by omega
          have hq0 : W0.cell? ⟨b, o + j * 8, none⟩ = some (.int .u8 (q : Nat)) := (HB0.out.cell (p := ⟨b, _, none⟩) hb').trans hq
          clear hj hp hbo hq
          cases af with
          | false =>
            have hq1 : ((q : Int) == 1) = false := beq_eq_false_iff_ne.2 (by have := of_decide_eq_false haf.symm; omega)
            have hl2 : l'.length + h.text.size ≤ 16777216 := by simpa using hlt1
            clear haf hlt1
            go_wp2_with (at_builtin; refine app_s rfl _ _ rfl w.heap.size _ (l') rfl HO0.out h.text rfl hl2 HB0.out.size wr.heap.size _ HT.out ?_; intro v' w1 ho hb ht; obtain ⟨a1, m1, c1, rfl⟩ := ho.shp; have HO1 : Hid (OwnB w.heap.size (.slice a1 m1 c1) (l' ++ bl (h.text)) w1) := ho; have HB1 : Hid (Below w.heap.size w w1) := HB0.out.trans hb; have HT1 := Lib.hid ht; clear ho hb ht)
            have HE2 : Hid (l' ++ bl h.text ++ r.src (decide (h.kind = 1)) = x.src false) := by
              have := HE1.out
              rw [HPI.out] at this
              unfold Hid; rw [← this]; simp
            exact ⟨⟨k + 1, a1, _, c1, _, r, _, rfl, by go_num, by have := HKI.out; omega, HO1, HE2, HAN, HRS, by omega, HSR2, HFR2, HB1⟩, by simp [intOf]; omega⟩
          | true =>
            have hq1 : ((q : Int) == 1) = true := beq_iff_eq.2 (by have := of_decide_eq_true haf.symm; omega)
            have hl2 : l'.length + (⟨#[123, 123, 47, 42, 42, 47, 125, 125]⟩ : ByteArray).size ≤ 16777216 := by have : (if true = true then noteS else []).length = 8 := rfl; rw [this] at hlt1; show l'.length + 8 ≤ _; omega
            have hl3 : (l' ++ bl ⟨#[123, 123, 47, 42, 42, 47, 125, 125]⟩).length + h.text.size ≤ 16777216 := by rw [List.length_append]; have : (if true = true then noteS else []).length = 8 := rfl; rw [this] at hlt1; show l'.length + 8 + _ ≤ _; omega
            clear haf hlt1
            go_upto_region 17 with (at_builtin; refine app_s rfl _ _ rfl w.heap.size _ (l') rfl HO0.out ⟨#[123, 123, 47, 42, 42, 47, 125, 125]⟩ rfl hl2 HB0.out.size wr.heap.size _ HT.out ?_; intro v' w1 ho hb ht; obtain ⟨a1, m1, c1, rfl⟩ := ho.shp; have HO1 : Hid (OwnB w.heap.size (.slice a1 m1 c1) (l' ++ bl (⟨#[123, 123, 47, 42, 42, 47, 125, 125]⟩)) w1) := ho; have HB1 : Hid (Below w.heap.size w w1) := HB0.out.trans hb; have HT1 := Lib.hid ht; clear ho hb ht)
            clear x0 x2 x3 x4 x5 x6 x7
            obtain ⟨x0, x2, x3, x4, x5, x6, x7⟩ := HXC.out _ HT1.out
            go_wp2_with (at_builtin; refine app_s rfl _ _ rfl w.heap.size _ (l' ++ bl ⟨#[123, 123, 47, 42, 42, 47, 125, 125]⟩) rfl HO1.out h.text rfl hl3 HB1.out.size wr.heap.size _ HT1.out ?_; intro v' w2 ho hb ht; obtain ⟨a2, m2, c2, rfl⟩ := ho.shp; have HO2 : Hid (OwnB w.heap.size (.slice a2 m2 c2) (l' ++ bl ⟨#[123, 123, 47, 42, 42, 47, 125, 125]⟩ ++ bl (h.text)) w2) := ho; have HB2 : Hid (Below w.heap.size w w2) := HB1.out.trans hb; have HT2 := Lib.hid ht; clear ho hb ht)
            have HE2 : Hid ((l' ++ bl ⟨#[123, 123, 47, 42, 42, 47, 125, 125]⟩) ++ bl h.text ++ r.src (decide (h.kind = 1)) = x.src false) := by
              have := HE1.out
              rw [HPI.out] at this
              unfold Hid; rw [← this]; simp [noteS, bl]
            exact ⟨⟨k + 1, a2, _, c2, _, r, _, rfl, by go_num, by have := HKI.out; omega, HO2, HE2, HAN, HRS, by omega, HSR2, HFR2, HB2⟩, by simp [intOf]; omega⟩
      have hP0 : wr.heap.size < W0.heap.size := lt_of_block HT.out
      obtain ⟨Wy, hWy⟩ : ∃ Wy, wayS h.root (bls h.names) = Wy := ⟨_, rfl⟩
      have hwl := way_len h.root h.names
      rw [hWy] at hwl
      obtain ⟨s, hs⟩ : ∃ s, mkB Wy = s := ⟨_, rfl⟩
      have hsz : s.size = Wy.length := by rw [← hs]; rfl
      have hsb : bl s = Wy := by rw [← hs]; rfl
      have HS := Lib.hid hsb
      have HWY := Lib.hid hWy
      by_cases h2 : h.kind = 2
      · have HPI : Hid (pieceB h kd el af = bra ++ Wy ++ ket) := by unfold Hid pieceB; rw [if_neg h1, if_pos h2, hWy]
        have hlt1 : l'.length + (s.size + 4) ≤ 16777216 := by
          have := HLT.out
          rw [HPI.out, List.length_append, List.length_append] at this
          have e1 : bra.length = 2 := rfl
          have e2 : ket.length = 2 := rfl
          omega
        have WC1 : Hid (Calls Tryz.prog 105 #[.agg #[.bool h.root, .slice an h.names.length cn]] W0 fun e w' => e = .returned (.string s) ∧ Below W0.heap.size W0 w') := by
          have := WC.out W0 HB0.out (by omega)
          rw [hWy, hs] at this; exact this
        rw [h2] at x0
        have HK1 := Lib.hid h2
        clear h1 h2 hWy hs hsb hwl
        go_wp2_with fail
        refine WC1.out.mono ?_
        rintro e w1 ⟨rfl, hb1⟩
        have HOw : Hid (OwnB w.heap.size (.slice oa on oc) l' w1) := HO0.out.bel hb1
        have HBw : Hid (Below w.heap.size w w1) := HB0.out.trans (hb1.mono HB0.out.size)
        have HTw := Lib.hid ((hb1.block _ hP0).trans HT.out)
        clear hb1 WC1 x0 x2 x3 x4 x5 x6 x7
        have z1 : (⟨#[123, 123]⟩ : ByteArray).size = 2 := rfl
        have z2 : (⟨#[125, 125]⟩ : ByteArray).size = 2 := rfl
        have z3 : (⟨#[123, 123]⟩ ++ s : ByteArray).size = 2 + s.size := by rw [ByteArray.size_append, z1]
        have z4 : l'.length + (⟨#[123, 123]⟩ ++ s ++ ⟨#[125, 125]⟩ : ByteArray).size ≤ 16777216 := by rw [ByteArray.size_append, z3, z2]; omega
        have hss : s.size ≤ 16777216 := by omega
        clear hsz
        go_wp2_with (at_builtin; refine app_s rfl _ _ rfl w.heap.size _ (l') (by rfl) HOw.out (⟨#[123, 123]⟩ ++ s ++ ⟨#[125, 125]⟩) (by rfl) z4 HBw.out.size wr.heap.size _ HTw.out ?_; intro v' w2 ho hb ht; obtain ⟨a2, m2, c2, rfl⟩ := ho.shp; have HO2 : Hid (OwnB w.heap.size (.slice a2 m2 c2) (l' ++ bl (⟨#[123, 123]⟩ ++ s ++ ⟨#[125, 125]⟩)) w2) := ho; have HB2 : Hid (Below w.heap.size w w2) := HBw.out.trans hb; have HT2 := Lib.hid ht; clear ho hb ht)
        have HE2 : Hid (l' ++ bl (⟨#[123, 123]⟩ ++ s ++ ⟨#[125, 125]⟩) ++ r.src (decide (h.kind = 1)) = x.src false) := by
          have := HE1.out
          rw [HPI.out] at this
          unfold Hid; rw [← this]; rw [ba_app, ba_app, HS.out]; simp [bra, ket, bl]
        exact ⟨⟨k + 1, a2, _, c2, _, r, _, rfl, by go_num, by have := HKI.out; omega, HO2, HE2, HAN, HRS, by omega, HSR2, HFR2, HB2⟩, by simp [intOf]; omega⟩
      by_cases h5 : h.kind = 5
      · have HPI : Hid (pieceB h kd el af = bra ++ (kCall ++ 32 :: bl h.name ++ 32 :: Wy) ++ ket) := by unfold Hid pieceB; rw [if_neg h1, if_neg h2, if_pos h5, hWy]
        have hlt1 : l'.length + (h.name.size + s.size + 10) ≤ 16777216 := by
          have := HLT.out
          rw [HPI.out] at this
          simp only [List.length_append, List.length_cons] at this
          have e1 : bra.length = 2 := rfl
          have e2 : ket.length = 2 := rfl
          have e3 : kCall.length = 4 := rfl
          have e4 : (bl h.name).length = h.name.size := rfl
          omega
        have WC1 : Hid (Calls Tryz.prog 105 #[.agg #[.bool h.root, .slice an h.names.length cn]] W0.drew fun e w' => e = .returned (.string s) ∧ Below W0.drew.heap.size W0.drew w') := by
          have := WC.out W0.drew (HB0.out.trans ⟨rfl, rfl, rfl, Nat.le_refl _, fun _ _ => rfl⟩) (by omega)
          rw [hWy, hs] at this; exact this
        rw [h5] at x0
        have HK1 := Lib.hid h5
        clear h1 h2 h5 hWy hs hsb hwl
        go_upto_region 21 with (fail)
        have HOd : Hid (OwnB w.heap.size (.slice oa on oc) l' W0.drew) := HO0.out
        have HBd : Hid (Below w.heap.size w W0.drew) := HB0.out.trans ⟨rfl, rfl, rfl, Nat.le_refl _, fun _ _ => rfl⟩
        have HTd : Hid (W0.drew.heap[wr.heap.size]? = _) := HT.out
        have z1 : (⟨#[123, 123, 99, 97, 108, 108, 32]⟩ : ByteArray).size = 7 := rfl
        have z2 : (⟨#[125, 125]⟩ : ByteArray).size = 2 := rfl
        have z5 : (⟨#[32]⟩ : ByteArray).size = 1 := rfl
        have z3 : (⟨#[123, 123, 99, 97, 108, 108, 32]⟩ ++ h.name : ByteArray).size = 7 + h.name.size := by rw [ByteArray.size_append, z1]
        have z6 : (⟨#[123, 123, 99, 97, 108, 108, 32]⟩ ++ h.name ++ ⟨#[32]⟩ : ByteArray).size = 7 + h.name.size + 1 := by rw [ByteArray.size_append, z3, z5]
        have z7 : (⟨#[123, 123, 99, 97, 108, 108, 32]⟩ ++ h.name ++ ⟨#[32]⟩ ++ s : ByteArray).size = 7 + h.name.size + 1 + s.size := by rw [ByteArray.size_append, z6]
        have z4 : l'.length + (⟨#[123, 123, 99, 97, 108, 108, 32]⟩ ++ h.name ++ ⟨#[32]⟩ ++ s ++ ⟨#[125, 125]⟩ : ByteArray).size ≤ 16777216 := by rw [ByteArray.size_append, z7, z2]; omega
        have hss : s.size ≤ 16777216 := by omega
        have hsn : h.name.size ≤ 16777216 := by omega
        have y1 : ¬ 9223372036854775807 < 7 + h.name.size := by omega
        have y2 : ¬ 9223372036854775807 < 7 + h.name.size + 1 := by omega
        have y3 : ¬ 9223372036854775807 < 7 + h.name.size + 1 + s.size := by omega
        have y4 : ¬ 9223372036854775807 < 7 + h.name.size + 1 + s.size + 2 := by omega
        clear hsz
        go_region_law (first | (go_simp; go_at_call 105; refine WC1.out.mono ?_; rintro e w1 ⟨rfl, hb1⟩; have HOw : Hid (OwnB w.heap.size (.slice oa on oc) l' w1) := HOd.out.bel hb1; have HBw : Hid (Below w.heap.size w w1) := HBd.out.trans (hb1.mono HBd.out.size); have HTw := Lib.hid ((hb1.block _ hP0).trans HTd.out); have x5w := (HXC.out _ HTw.out).2.2.2.2.1; clear hb1) | (refine step_app_s (by rfl) _ _ (by rfl) w.heap.size _ (l') (by rfl) HOw.out (⟨#[123, 123, 99, 97, 108, 108, 32]⟩ ++ h.name ++ ⟨#[32]⟩ ++ s ++ ⟨#[125, 125]⟩) (by rfl) z4 HBw.out.size wr.heap.size _ HTw.out ?_; intro v' w2 ho hb ht; obtain ⟨a2, m2, c2, rfl⟩ := ho.shp; have HO2 : Hid (OwnB w.heap.size (.slice a2 m2 c2) (l' ++ bl (⟨#[123, 123, 99, 97, 108, 108, 32]⟩ ++ h.name ++ ⟨#[32]⟩ ++ s ++ ⟨#[125, 125]⟩)) w2) := ho; have HB2 : Hid (Below w.heap.size w w2) := HBw.out.trans hb; have HT2 := Lib.hid ht; clear ho hb ht))
        all_goals
          go_wp2_with fail
          have HE2 : Hid (l' ++ bl (⟨#[123, 123, 99, 97, 108, 108, 32]⟩ ++ h.name ++ ⟨#[32]⟩ ++ s ++ ⟨#[125, 125]⟩) ++ r.src (decide (h.kind = 1)) = x.src false) := by
            have := HE1.out
            rw [HPI.out] at this
            unfold Hid; rw [← this]; rw [ba_app, ba_app, ba_app, ba_app, HS.out]; simp [bra, ket, kCall, bl]
          exact ⟨⟨k + 1, a2, _, c2, _, r, _, rfl, by go_num, by have := HKI.out; omega, HO2, HE2, HAN, HRS, by omega, HSR2, HFR2, HB2⟩, by simp [intOf]; omega⟩
      -- KIND34
      have hk34 : h.kind = 3 ∨ h.kind = 4 := by
        have := HHO.out
        unfold hdOk at this
        rw [if_neg h1, if_neg h2, if_neg h5] at this
        split at this
        · assumption
        · simp at this
      have hfke : Pt.form false kd = true ∧ Pt.form false el = true := by have := HKE.out; rw [if_pos hk34] at this; simpa using this
      obtain ⟨hfk, hfe⟩ := hfke
      have HFE := Lib.hid hfe
      obtain ⟨sk, hk1⟩ : ∃ sk, mkB (kd.src false) = sk := ⟨_, rfl⟩
      have hszk : sk.size = (kd.src false).length := by rw [← hk1]; rfl
      have HSK : Hid (bl sk = kd.src false) := by unfold Hid; rw [← hk1]; rfl
      clear hfe
      rcases hk34 with hk | hk
      · have HPI : Hid (pieceB h kd el af = bra ++ (kIf ++ 32 :: Wy) ++ ket ++ kd.src false ++ (if el.isNil then [] else elseS ++ el.src false) ++ endS) := by
          unfold Hid pieceB; rw [if_neg h1, if_neg h2, if_neg h5, if_pos (by omega), hWy]
          congr 7
          rw [if_neg (by omega)]
        have hlt1 : l'.length + (5 + s.size + 2 + sk.size + (if el.isNil then [] else elseS ++ el.src false).length + 7) ≤ 16777216 := by
          have := HLT.out
          rw [HPI.out] at this
          simp only [List.length_append, List.length_cons] at this
          have e1 : bra.length = 2 := rfl
          have e2 : ket.length = 2 := rfl
          have e3 : kIf.length = 2 := rfl
          have e4 : endS.length = 7 := rfl
          omega
        have WC1 : Hid (Calls Tryz.prog 105 #[.agg #[.bool h.root, .slice an h.names.length cn]] W0.drew fun e w' => e = .returned (.string s) ∧ Below W0.drew.heap.size W0.drew w') := by
          have := WC.out W0.drew (HB0.out.trans ⟨rfl, rfl, rfl, Nat.le_refl _, fun _ _ => rfl⟩) (by omega)
          rw [hWy, hs] at this; exact this
        have KC1 : Hid (∀ W, Below w.heap.size w W → Calls Tryz.prog 60 #[.slice ak kd.len ck] W fun e w' => e = .returned (.string sk) ∧ Below W.heap.size W w') := fun W hW => by
          have := KC.out W hW hfk (by omega)
          rw [hk1] at this; exact this
        rw [hk] at x0
        have HK1 := Lib.hid hk
        clear h1 h2 h5 hk hWy hs hsb hwl hk1 hfk
        go_upto_region 10 with (fail)
        have HOd : Hid (OwnB w.heap.size (.slice oa on oc) l' W0.drew) := HO0.out
        have HBd : Hid (Below w.heap.size w W0.drew) := HB0.out.trans ⟨rfl, rfl, rfl, Nat.le_refl _, fun _ _ => rfl⟩
        have HTd : Hid (W0.drew.heap[wr.heap.size]? = _) := HT.out
        have z1 : (⟨#[123, 123, 105, 102, 32]⟩ : ByteArray).size = 5 := rfl
        have z2 : (⟨#[125, 125]⟩ : ByteArray).size = 2 := rfl
        have z3 : (⟨#[123, 123, 105, 102, 32]⟩ ++ s : ByteArray).size = 5 + s.size := by rw [ByteArray.size_append, z1]
        have z6 : (⟨#[123, 123, 105, 102, 32]⟩ ++ s ++ ⟨#[125, 125]⟩ : ByteArray).size = 5 + s.size + 2 := by rw [ByteArray.size_append, z3, z2]
        have z7 : (⟨#[123, 123, 105, 102, 32]⟩ ++ s ++ ⟨#[125, 125]⟩ ++ sk : ByteArray).size = 5 + s.size + 2 + sk.size := by rw [ByteArray.size_append, z6]
        have z4 : l'.length + (⟨#[123, 123, 105, 102, 32]⟩ ++ s ++ ⟨#[125, 125]⟩ ++ sk : ByteArray).size ≤ 16777216 := by rw [z7]; omega
        have hss : s.size ≤ 16777216 := by omega
        have hsn : sk.size ≤ 16777216 := by omega
        have y1 : ¬ 9223372036854775807 < 5 + s.size := by omega
        have y2 : ¬ 9223372036854775807 < 5 + s.size + 2 := by omega
        have y3 : ¬ 9223372036854775807 < 5 + s.size + 2 + sk.size := by omega
        have HLT1 := Lib.hid hlt1
        have HZ := Lib.hid hsz
        have HZK := Lib.hid hszk
        clear hsz hszk hlt1
        go_region_law (first | (go_simp; go_at_call 105; refine WC1.out.mono ?_; rintro e w1 ⟨rfl, hb1⟩; have HOw : Hid (OwnB w.heap.size (.slice oa on oc) l' w1) := HOd.out.bel hb1; have HBw : Hid (Below w.heap.size w w1) := HBd.out.trans (hb1.mono HBd.out.size); have HTw := Lib.hid ((hb1.block _ hP0).trans HTd.out); have x6w := (HXC.out _ HTw.out).2.2.2.2.2.1; have KC2 := Lib.hid (KC1.out _ HBw.out); clear hb1) | (go_simp; go_at_call 60; refine KC2.out.mono ?_; rintro e w2 ⟨rfl, hb2⟩; have HOk : Hid (OwnB w.heap.size (.slice oa on oc) l' w2) := HOw.out.bel hb2; have HBk : Hid (Below w.heap.size w w2) := HBw.out.trans (hb2.mono HBw.out.size); have HTk := Lib.hid ((hb2.block _ (lt_of_block HTw.out)).trans HTw.out); clear hb2) | (refine step_app_s (by rfl) _ _ (by rfl) w.heap.size _ (l') (by rfl) HOk.out (⟨#[123, 123, 105, 102, 32]⟩ ++ s ++ ⟨#[125, 125]⟩ ++ sk) (by rfl) z4 HBk.out.size wr.heap.size _ HTk.out ?_; intro v' w3 ho hb ht; obtain ⟨a3, m3, c3, rfl⟩ := ho.shp; have HO3 : Hid (OwnB w.heap.size (.slice a3 m3 c3) (l' ++ bl (⟨#[123, 123, 105, 102, 32]⟩ ++ s ++ ⟨#[125, 125]⟩ ++ sk)) w3) := ho; have HB3 : Hid (Below w.heap.size w w3) := HBk.out.trans hb; have HT3 := Lib.hid ht; clear ho hb ht))
        all_goals
          obtain ⟨t0, t2, t3, t4, t5, t6, t7⟩ := HXC.out _ HT3.out
          have HLs : Hid ((l' ++ bl (⟨#[123, 123, 105, 102, 32]⟩ ++ s ++ ⟨#[125, 125]⟩ ++ sk)).length = l'.length + (5 + s.size + 2 + sk.size)) := by unfold Hid; rw [List.length_append]; show _ + (⟨#[123, 123, 105, 102, 32]⟩ ++ s ++ ⟨#[125, 125]⟩ ++ sk : ByteArray).size = _; rw [z7]
          have HEL := Lib.hid (nil_len el)
          clear y1 y2 y3 z3 z6 z7 z4 hss hsn x0 x2 x3 x4 x5 x6 x7 WC1
          by_cases hel : el.isNil = true
          · have HIS : Hid ((if el.isNil then [] else elseS ++ el.src false) = []) := if_pos hel
            have hl0 : ¬ (0 : Int) < (el.len : Int) := by rw [HEL.out] at hel; have := of_decide_eq_true hel; omega
            have hl5 : (l' ++ bl (⟨#[123, 123, 105, 102, 32]⟩ ++ s ++ ⟨#[125, 125]⟩ ++ sk)).length + (⟨#[123, 123, 101, 110, 100, 125, 125]⟩ : ByteArray).size ≤ 16777216 := by
              rw [HLs.out]
              have := HLT1.out
              show _ + 7 ≤ _
              omega
            have HPJ : Hid (pieceB h kd el af = bra ++ (kIf ++ 32 :: Wy) ++ ket ++ kd.src false ++ endS) := by unfold Hid; rw [HPI.out, HIS.out, List.append_nil]
            clear hel
            go_wp2_with (at_builtin; refine app_s rfl _ _ rfl w.heap.size _ (l' ++ bl (⟨#[123, 123, 105, 102, 32]⟩ ++ s ++ ⟨#[125, 125]⟩ ++ sk)) (by rfl) HO3.out (⟨#[123, 123, 101, 110, 100, 125, 125]⟩) (by rfl) hl5 HB3.out.size wr.heap.size _ HT3.out ?_; intro v' w5 ho hb ht; obtain ⟨a5, m5, c5, rfl⟩ := ho.shp; have HO5 : Hid (OwnB w.heap.size (.slice a5 m5 c5) (l' ++ bl (⟨#[123, 123, 105, 102, 32]⟩ ++ s ++ ⟨#[125, 125]⟩ ++ sk) ++ bl (⟨#[123, 123, 101, 110, 100, 125, 125]⟩)) w5) := ho; have HB5 : Hid (Below w.heap.size w w5) := HB3.out.trans hb; have HT5 := Lib.hid ht; clear ho hb ht)
            have HE2 : Hid (l' ++ bl (⟨#[123, 123, 105, 102, 32]⟩ ++ s ++ ⟨#[125, 125]⟩ ++ sk) ++ bl ⟨#[123, 123, 101, 110, 100, 125, 125]⟩ ++ r.src (decide (h.kind = 1)) = x.src false) := by
              have := HE1.out
              rw [HPJ.out] at this
              unfold Hid; rw [← this]; rw [ba_app, ba_app, ba_app, HS.out, HSK.out]; simp [bra, ket, kIf, endS, bl]
            exact ⟨⟨k + 1, a5, _, c5, _, r, _, rfl, by go_num, by have := HKI.out; omega, HO5, HE2, HAN, HRS, by omega, HSR2, HFR2, HB5⟩, by simp [intOf]; omega⟩
          · have HIS : Hid ((if el.isNil then [] else elseS ++ el.src false) = elseS ++ el.src false) := if_neg hel
            have hl0 : (0 : Int) < (el.len : Int) := by rw [HEL.out] at hel; have : ¬ el.len = 0 := fun e => hel (decide_eq_true e); omega
            have hle : l'.length + (5 + s.size + 2 + sk.size + (8 + (el.src false).length) + 7) ≤ 16777216 := by
              have := HLT1.out
              rw [HIS.out, List.length_append] at this
              have e : elseS.length = 8 := rfl
              omega
            have HPJ : Hid (pieceB h kd el af = bra ++ (kIf ++ 32 :: Wy) ++ ket ++ kd.src false ++ (elseS ++ el.src false) ++ endS) := by unfold Hid; rw [HPI.out, HIS.out]
            obtain ⟨se, hse⟩ : ∃ se, mkB (el.src false) = se := ⟨_, rfl⟩
            have hszE : se.size = (el.src false).length := by rw [← hse]; rfl
            have HSE : Hid (bl se = el.src false) := by unfold Hid; rw [← hse]; rfl
            have EC1 : Hid (Calls Tryz.prog 60 #[.slice ae el.len ce] w3 fun e w' => e = .returned (.string se) ∧ Below w3.heap.size w3 w') := by
              have := EC.out w3 HB3.out HFE.out (by omega)
              rw [hse] at this; exact this
            have z8 : (⟨#[123, 123, 101, 108, 115, 101, 125, 125]⟩ : ByteArray).size = 8 := rfl
            have z9 : (⟨#[123, 123, 101, 108, 115, 101, 125, 125]⟩ ++ se : ByteArray).size = 8 + se.size := by rw [ByteArray.size_append, z8]
            have hl5 : (l' ++ bl (⟨#[123, 123, 105, 102, 32]⟩ ++ s ++ ⟨#[125, 125]⟩ ++ sk)).length + (⟨#[123, 123, 101, 108, 115, 101, 125, 125]⟩ ++ se : ByteArray).size ≤ 16777216 := by rw [HLs.out, z9]; omega
            have hl6 : (l' ++ bl (⟨#[123, 123, 105, 102, 32]⟩ ++ s ++ ⟨#[125, 125]⟩ ++ sk) ++ bl (⟨#[123, 123, 101, 108, 115, 101, 125, 125]⟩ ++ se)).length + (⟨#[123, 123, 101, 110, 100, 125, 125]⟩ : ByteArray).size ≤ 16777216 := by
              rw [List.length_append, HLs.out]
              show _ + (⟨#[123, 123, 101, 108, 115, 101, 125, 125]⟩ ++ se : ByteArray).size + 7 ≤ _
              rw [z9]; omega
            have hse5 : se.size ≤ 16777216 := by omega
            clear hel hse hszE hle
            go_wp2_with fail
            refine EC1.out.mono ?_
            rintro e w4 ⟨rfl, hb4⟩
            have HOe : Hid (OwnB w.heap.size (.slice a3 m3 c3) (l' ++ bl (⟨#[123, 123, 105, 102, 32]⟩ ++ s ++ ⟨#[125, 125]⟩ ++ sk)) w4) := HO3.out.bel hb4
            have HBe : Hid (Below w.heap.size w w4) := HB3.out.trans (hb4.mono HB3.out.size)
            have HTe := Lib.hid ((hb4.block _ (lt_of_block HT3.out)).trans HT3.out)
            clear hb4 EC1 t0 t2 t3 t4 t5 t6 t7
            go_upto_region 13 with (at_builtin; refine app_s rfl _ _ rfl w.heap.size _ (l' ++ bl (⟨#[123, 123, 105, 102, 32]⟩ ++ s ++ ⟨#[125, 125]⟩ ++ sk)) (by rfl) HOe.out (⟨#[123, 123, 101, 108, 115, 101, 125, 125]⟩ ++ se) (by rfl) hl5 HBe.out.size wr.heap.size _ HTe.out ?_; intro v' w5 ho hb ht; obtain ⟨a5, m5, c5, rfl⟩ := ho.shp; have HO5 : Hid (OwnB w.heap.size (.slice a5 m5 c5) (l' ++ bl (⟨#[123, 123, 105, 102, 32]⟩ ++ s ++ ⟨#[125, 125]⟩ ++ sk) ++ bl (⟨#[123, 123, 101, 108, 115, 101, 125, 125]⟩ ++ se)) w5) := ho; have HB5 : Hid (Below w.heap.size w w5) := HBe.out.trans hb; have HT5 := Lib.hid ht; clear ho hb ht)
            go_wp2_with (at_builtin; refine app_s rfl _ _ rfl w.heap.size _ (l' ++ bl (⟨#[123, 123, 105, 102, 32]⟩ ++ s ++ ⟨#[125, 125]⟩ ++ sk) ++ bl (⟨#[123, 123, 101, 108, 115, 101, 125, 125]⟩ ++ se)) (by rfl) HO5.out (⟨#[123, 123, 101, 110, 100, 125, 125]⟩) (by rfl) hl6 HB5.out.size wr.heap.size _ HT5.out ?_; intro v' w6 ho hb ht; obtain ⟨a6, m6, c6, rfl⟩ := ho.shp; have HO6 : Hid (OwnB w.heap.size (.slice a6 m6 c6) (l' ++ bl (⟨#[123, 123, 105, 102, 32]⟩ ++ s ++ ⟨#[125, 125]⟩ ++ sk) ++ bl (⟨#[123, 123, 101, 108, 115, 101, 125, 125]⟩ ++ se) ++ bl (⟨#[123, 123, 101, 110, 100, 125, 125]⟩)) w6) := ho; have HB6 : Hid (Below w.heap.size w w6) := HB5.out.trans hb; have HT6 := Lib.hid ht; clear ho hb ht)
            have HE2 : Hid (l' ++ bl (⟨#[123, 123, 105, 102, 32]⟩ ++ s ++ ⟨#[125, 125]⟩ ++ sk) ++ bl (⟨#[123, 123, 101, 108, 115, 101, 125, 125]⟩ ++ se) ++ bl ⟨#[123, 123, 101, 110, 100, 125, 125]⟩ ++ r.src (decide (h.kind = 1)) = x.src false) := by
              have := HE1.out
              rw [HPJ.out] at this
              unfold Hid; rw [← this]; rw [ba_app, ba_app, ba_app, ba_app, HS.out, HSK.out, HSE.out]; simp [bra, ket, kIf, elseS, endS, bl]
            exact ⟨⟨k + 1, a6, _, c6, _, r, _, rfl, by go_num, by have := HKI.out; omega, HO6, HE2, HAN, HRS, by omega, HSR2, HFR2, HB6⟩, by simp [intOf]; omega⟩
      · have HPI : Hid (pieceB h kd el af = bra ++ (kRange ++ 32 :: Wy) ++ ket ++ kd.src false ++ (if el.isNil then [] else elseS ++ el.src false) ++ endS) := by
          unfold Hid pieceB; rw [if_neg h1, if_neg h2, if_neg h5, if_pos (by omega), hWy]
          congr 7
          rw [if_pos hk]
        have hlt1 : l'.length + (8 + s.size + 2 + sk.size + (if el.isNil then [] else elseS ++ el.src false).length + 7) ≤ 16777216 := by
          have := HLT.out
          rw [HPI.out] at this
          simp only [List.length_append, List.length_cons] at this
          have e1 : bra.length = 2 := rfl
          have e2 : ket.length = 2 := rfl
          have e3 : kRange.length = 5 := rfl
          have e4 : endS.length = 7 := rfl
          omega
        have WC1 : Hid (Calls Tryz.prog 105 #[.agg #[.bool h.root, .slice an h.names.length cn]] W0.drew fun e w' => e = .returned (.string s) ∧ Below W0.drew.heap.size W0.drew w') := by
          have := WC.out W0.drew (HB0.out.trans ⟨rfl, rfl, rfl, Nat.le_refl _, fun _ _ => rfl⟩) (by omega)
          rw [hWy, hs] at this; exact this
        have KC1 : Hid (∀ W, Below w.heap.size w W → Calls Tryz.prog 60 #[.slice ak kd.len ck] W fun e w' => e = .returned (.string sk) ∧ Below W.heap.size W w') := fun W hW => by
          have := KC.out W hW hfk (by omega)
          rw [hk1] at this; exact this
        rw [hk] at x0
        have HK1 := Lib.hid hk
        clear h1 h2 h5 hk hWy hs hsb hwl hk1 hfk
        go_upto_region 10 with (fail)
        have HOd : Hid (OwnB w.heap.size (.slice oa on oc) l' W0.drew) := HO0.out
        have HBd : Hid (Below w.heap.size w W0.drew) := HB0.out.trans ⟨rfl, rfl, rfl, Nat.le_refl _, fun _ _ => rfl⟩
        have HTd : Hid (W0.drew.heap[wr.heap.size]? = _) := HT.out
        have z1 : (⟨#[123, 123, 114, 97, 110, 103, 101, 32]⟩ : ByteArray).size = 8 := rfl
        have z2 : (⟨#[125, 125]⟩ : ByteArray).size = 2 := rfl
        have z3 : (⟨#[123, 123, 114, 97, 110, 103, 101, 32]⟩ ++ s : ByteArray).size = 8 + s.size := by rw [ByteArray.size_append, z1]
        have z6 : (⟨#[123, 123, 114, 97, 110, 103, 101, 32]⟩ ++ s ++ ⟨#[125, 125]⟩ : ByteArray).size = 8 + s.size + 2 := by rw [ByteArray.size_append, z3, z2]
        have z7 : (⟨#[123, 123, 114, 97, 110, 103, 101, 32]⟩ ++ s ++ ⟨#[125, 125]⟩ ++ sk : ByteArray).size = 8 + s.size + 2 + sk.size := by rw [ByteArray.size_append, z6]
        have z4 : l'.length + (⟨#[123, 123, 114, 97, 110, 103, 101, 32]⟩ ++ s ++ ⟨#[125, 125]⟩ ++ sk : ByteArray).size ≤ 16777216 := by rw [z7]; omega
        have hss : s.size ≤ 16777216 := by omega
        have hsn : sk.size ≤ 16777216 := by omega
        have y1 : ¬ 9223372036854775807 < 8 + s.size := by omega
        have y2 : ¬ 9223372036854775807 < 8 + s.size + 2 := by omega
        have y3 : ¬ 9223372036854775807 < 8 + s.size + 2 + sk.size := by omega
        have HLT1 := Lib.hid hlt1
        have HZ := Lib.hid hsz
        have HZK := Lib.hid hszk
        clear hsz hszk hlt1
        go_region_law (first | (go_simp; go_at_call 105; refine WC1.out.mono ?_; rintro e w1 ⟨rfl, hb1⟩; have HOw : Hid (OwnB w.heap.size (.slice oa on oc) l' w1) := HOd.out.bel hb1; have HBw : Hid (Below w.heap.size w w1) := HBd.out.trans (hb1.mono HBd.out.size); have HTw := Lib.hid ((hb1.block _ hP0).trans HTd.out); have x6w := (HXC.out _ HTw.out).2.2.2.2.2.1; have KC2 := Lib.hid (KC1.out _ HBw.out); clear hb1) | (go_simp; go_at_call 60; refine KC2.out.mono ?_; rintro e w2 ⟨rfl, hb2⟩; have HOk : Hid (OwnB w.heap.size (.slice oa on oc) l' w2) := HOw.out.bel hb2; have HBk : Hid (Below w.heap.size w w2) := HBw.out.trans (hb2.mono HBw.out.size); have HTk := Lib.hid ((hb2.block _ (lt_of_block HTw.out)).trans HTw.out); clear hb2) | (refine step_app_s (by rfl) _ _ (by rfl) w.heap.size _ (l') (by rfl) HOk.out (⟨#[123, 123, 114, 97, 110, 103, 101, 32]⟩ ++ s ++ ⟨#[125, 125]⟩ ++ sk) (by rfl) z4 HBk.out.size wr.heap.size _ HTk.out ?_; intro v' w3 ho hb ht; obtain ⟨a3, m3, c3, rfl⟩ := ho.shp; have HO3 : Hid (OwnB w.heap.size (.slice a3 m3 c3) (l' ++ bl (⟨#[123, 123, 114, 97, 110, 103, 101, 32]⟩ ++ s ++ ⟨#[125, 125]⟩ ++ sk)) w3) := ho; have HB3 : Hid (Below w.heap.size w w3) := HBk.out.trans hb; have HT3 := Lib.hid ht; clear ho hb ht))
        all_goals
          obtain ⟨t0, t2, t3, t4, t5, t6, t7⟩ := HXC.out _ HT3.out
          have HLs : Hid ((l' ++ bl (⟨#[123, 123, 114, 97, 110, 103, 101, 32]⟩ ++ s ++ ⟨#[125, 125]⟩ ++ sk)).length = l'.length + (8 + s.size + 2 + sk.size)) := by unfold Hid; rw [List.length_append]; show _ + (⟨#[123, 123, 114, 97, 110, 103, 101, 32]⟩ ++ s ++ ⟨#[125, 125]⟩ ++ sk : ByteArray).size = _; rw [z7]
          have HEL := Lib.hid (nil_len el)
          clear y1 y2 y3 z3 z6 z7 z4 hss hsn x0 x2 x3 x4 x5 x6 x7 WC1
          by_cases hel : el.isNil = true
          · have HIS : Hid ((if el.isNil then [] else elseS ++ el.src false) = []) := if_pos hel
            have hl0 : ¬ (0 : Int) < (el.len : Int) := by rw [HEL.out] at hel; have := of_decide_eq_true hel; omega
            have hl5 : (l' ++ bl (⟨#[123, 123, 114, 97, 110, 103, 101, 32]⟩ ++ s ++ ⟨#[125, 125]⟩ ++ sk)).length + (⟨#[123, 123, 101, 110, 100, 125, 125]⟩ : ByteArray).size ≤ 16777216 := by
              rw [HLs.out]
              have := HLT1.out
              show _ + 7 ≤ _
              omega
            have HPJ : Hid (pieceB h kd el af = bra ++ (kRange ++ 32 :: Wy) ++ ket ++ kd.src false ++ endS) := by unfold Hid; rw [HPI.out, HIS.out, List.append_nil]
            clear hel
            go_wp2_with (at_builtin; refine app_s rfl _ _ rfl w.heap.size _ (l' ++ bl (⟨#[123, 123, 114, 97, 110, 103, 101, 32]⟩ ++ s ++ ⟨#[125, 125]⟩ ++ sk)) (by rfl) HO3.out (⟨#[123, 123, 101, 110, 100, 125, 125]⟩) (by rfl) hl5 HB3.out.size wr.heap.size _ HT3.out ?_; intro v' w5 ho hb ht; obtain ⟨a5, m5, c5, rfl⟩ := ho.shp; have HO5 : Hid (OwnB w.heap.size (.slice a5 m5 c5) (l' ++ bl (⟨#[123, 123, 114, 97, 110, 103, 101, 32]⟩ ++ s ++ ⟨#[125, 125]⟩ ++ sk) ++ bl (⟨#[123, 123, 101, 110, 100, 125, 125]⟩)) w5) := ho; have HB5 : Hid (Below w.heap.size w w5) := HB3.out.trans hb; have HT5 := Lib.hid ht; clear ho hb ht)
            have HE2 : Hid (l' ++ bl (⟨#[123, 123, 114, 97, 110, 103, 101, 32]⟩ ++ s ++ ⟨#[125, 125]⟩ ++ sk) ++ bl ⟨#[123, 123, 101, 110, 100, 125, 125]⟩ ++ r.src (decide (h.kind = 1)) = x.src false) := by
              have := HE1.out
              rw [HPJ.out] at this
              unfold Hid; rw [← this]; rw [ba_app, ba_app, ba_app, HS.out, HSK.out]; simp [bra, ket, kRange, endS, bl]
            exact ⟨⟨k + 1, a5, _, c5, _, r, _, rfl, by go_num, by have := HKI.out; omega, HO5, HE2, HAN, HRS, by omega, HSR2, HFR2, HB5⟩, by simp [intOf]; omega⟩
          · have HIS : Hid ((if el.isNil then [] else elseS ++ el.src false) = elseS ++ el.src false) := if_neg hel
            have hl0 : (0 : Int) < (el.len : Int) := by rw [HEL.out] at hel; have : ¬ el.len = 0 := fun e => hel (decide_eq_true e); omega
            have hle : l'.length + (8 + s.size + 2 + sk.size + (8 + (el.src false).length) + 7) ≤ 16777216 := by
              have := HLT1.out
              rw [HIS.out, List.length_append] at this
              have e : elseS.length = 8 := rfl
              omega
            have HPJ : Hid (pieceB h kd el af = bra ++ (kRange ++ 32 :: Wy) ++ ket ++ kd.src false ++ (elseS ++ el.src false) ++ endS) := by unfold Hid; rw [HPI.out, HIS.out]
            obtain ⟨se, hse⟩ : ∃ se, mkB (el.src false) = se := ⟨_, rfl⟩
            have hszE : se.size = (el.src false).length := by rw [← hse]; rfl
            have HSE : Hid (bl se = el.src false) := by unfold Hid; rw [← hse]; rfl
            have EC1 : Hid (Calls Tryz.prog 60 #[.slice ae el.len ce] w3 fun e w' => e = .returned (.string se) ∧ Below w3.heap.size w3 w') := by
              have := EC.out w3 HB3.out HFE.out (by omega)
              rw [hse] at this; exact this
            have z8 : (⟨#[123, 123, 101, 108, 115, 101, 125, 125]⟩ : ByteArray).size = 8 := rfl
            have z9 : (⟨#[123, 123, 101, 108, 115, 101, 125, 125]⟩ ++ se : ByteArray).size = 8 + se.size := by rw [ByteArray.size_append, z8]
            have hl5 : (l' ++ bl (⟨#[123, 123, 114, 97, 110, 103, 101, 32]⟩ ++ s ++ ⟨#[125, 125]⟩ ++ sk)).length + (⟨#[123, 123, 101, 108, 115, 101, 125, 125]⟩ ++ se : ByteArray).size ≤ 16777216 := by rw [HLs.out, z9]; omega
            have hl6 : (l' ++ bl (⟨#[123, 123, 114, 97, 110, 103, 101, 32]⟩ ++ s ++ ⟨#[125, 125]⟩ ++ sk) ++ bl (⟨#[123, 123, 101, 108, 115, 101, 125, 125]⟩ ++ se)).length + (⟨#[123, 123, 101, 110, 100, 125, 125]⟩ : ByteArray).size ≤ 16777216 := by
              rw [List.length_append, HLs.out]
              show _ + (⟨#[123, 123, 101, 108, 115, 101, 125, 125]⟩ ++ se : ByteArray).size + 7 ≤ _
              rw [z9]; omega
            have hse5 : se.size ≤ 16777216 := by omega
            clear hel hse hszE hle
            go_wp2_with fail
            refine EC1.out.mono ?_
            rintro e w4 ⟨rfl, hb4⟩
            have HOe : Hid (OwnB w.heap.size (.slice a3 m3 c3) (l' ++ bl (⟨#[123, 123, 114, 97, 110, 103, 101, 32]⟩ ++ s ++ ⟨#[125, 125]⟩ ++ sk)) w4) := HO3.out.bel hb4
            have HBe : Hid (Below w.heap.size w w4) := HB3.out.trans (hb4.mono HB3.out.size)
            have HTe := Lib.hid ((hb4.block _ (lt_of_block HT3.out)).trans HT3.out)
            clear hb4 EC1 t0 t2 t3 t4 t5 t6 t7
            go_upto_region 13 with (at_builtin; refine app_s rfl _ _ rfl w.heap.size _ (l' ++ bl (⟨#[123, 123, 114, 97, 110, 103, 101, 32]⟩ ++ s ++ ⟨#[125, 125]⟩ ++ sk)) (by rfl) HOe.out (⟨#[123, 123, 101, 108, 115, 101, 125, 125]⟩ ++ se) (by rfl) hl5 HBe.out.size wr.heap.size _ HTe.out ?_; intro v' w5 ho hb ht; obtain ⟨a5, m5, c5, rfl⟩ := ho.shp; have HO5 : Hid (OwnB w.heap.size (.slice a5 m5 c5) (l' ++ bl (⟨#[123, 123, 114, 97, 110, 103, 101, 32]⟩ ++ s ++ ⟨#[125, 125]⟩ ++ sk) ++ bl (⟨#[123, 123, 101, 108, 115, 101, 125, 125]⟩ ++ se)) w5) := ho; have HB5 : Hid (Below w.heap.size w w5) := HBe.out.trans hb; have HT5 := Lib.hid ht; clear ho hb ht)
            go_wp2_with (at_builtin; refine app_s rfl _ _ rfl w.heap.size _ (l' ++ bl (⟨#[123, 123, 114, 97, 110, 103, 101, 32]⟩ ++ s ++ ⟨#[125, 125]⟩ ++ sk) ++ bl (⟨#[123, 123, 101, 108, 115, 101, 125, 125]⟩ ++ se)) (by rfl) HO5.out (⟨#[123, 123, 101, 110, 100, 125, 125]⟩) (by rfl) hl6 HB5.out.size wr.heap.size _ HT5.out ?_; intro v' w6 ho hb ht; obtain ⟨a6, m6, c6, rfl⟩ := ho.shp; have HO6 : Hid (OwnB w.heap.size (.slice a6 m6 c6) (l' ++ bl (⟨#[123, 123, 114, 97, 110, 103, 101, 32]⟩ ++ s ++ ⟨#[125, 125]⟩ ++ sk) ++ bl (⟨#[123, 123, 101, 108, 115, 101, 125, 125]⟩ ++ se) ++ bl (⟨#[123, 123, 101, 110, 100, 125, 125]⟩)) w6) := ho; have HB6 : Hid (Below w.heap.size w w6) := HB5.out.trans hb; have HT6 := Lib.hid ht; clear ho hb ht)
            have HE2 : Hid (l' ++ bl (⟨#[123, 123, 114, 97, 110, 103, 101, 32]⟩ ++ s ++ ⟨#[125, 125]⟩ ++ sk) ++ bl (⟨#[123, 123, 101, 108, 115, 101, 125, 125]⟩ ++ se) ++ bl ⟨#[123, 123, 101, 110, 100, 125, 125]⟩ ++ r.src (decide (h.kind = 1)) = x.src false) := by
              have := HE1.out
              rw [HPJ.out] at this
              unfold Hid; rw [← this]; rw [ba_app, ba_app, ba_app, ba_app, HS.out, HSK.out, HSE.out]; simp [bra, ket, kRange, elseS, endS, bl]
            exact ⟨⟨k + 1, a6, _, c6, _, r, _, rfl, by go_num, by have := HKI.out; omega, HO6, HE2, HAN, HRS, by omega, HSR2, HFR2, HB6⟩, by simp [intOf]; omega⟩
theorem pn_all (n : Nat) : PnSaid n := by
  induction n with
  | zero => intro x h; exact absurd h (Nat.not_lt_zero _)
  | succ n ih => exact pn_step n ih
theorem printR_calls (x : Pt) (fr : Bool) (v : Value) (w : World) (hsm : x.sm) (hf : x.form fr = true) (hc : x.cnt ≤ 16777216) (hl : (x.src false).length ≤ 16777216) (hx : Parts (· < w.heap.size) w v x) : Calls Tryz.prog 60 #[v] w (PnP x w) :=
  pn_all (x.cnt + 1) x (Nat.lt_succ_self _) fr v w hsm hf hc hl hx
end Go.Proofs.YtdgcdjpjnhlihaaGreatDoor
