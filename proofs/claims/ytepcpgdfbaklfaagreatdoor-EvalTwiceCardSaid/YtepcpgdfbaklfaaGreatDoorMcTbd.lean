/- Contracts of strings.Builder at this program, with the frame that reaches above the builder; strings.Join between blanks. The condition: what is held and what is written together take at most 2 to the 47th bytes. -/
import Derived.Test.YtepcpgdfbaklfaaGreatDoorMcLibv
import Derived.Lib.BufferKept
set_option linter.unusedVariables false
namespace Go.Proofs.YtepcpgdfbaklfaaGreatDoor
open Go.RowKit Go.Shelf
def Bdf (B b : Nat) (l : By) (w : World) : Prop := Lib.IsBuilderF 136 5 B b (Lib.byteCells l) w
def Wr (B b : Nat) (w w' : World) : Prop := Below B w w' ∧ Lib.OthersKept 5 (some b) w w'
theorem Wr.refl (B b : Nat) (w : World) : Wr B b w w := ⟨Below.refl B w, Lib.OthersKept.refl _ _ w⟩
theorem Wr.trans {B b : Nat} {x y z : World} (h : Wr B b x y) (k : Wr B b y z) : Wr B b x z := ⟨h.1.trans k.1, h.2.trans k.2⟩
theorem Wr.below {B b : Nat} {w w' : World} (h : Below w.heap.size w w') (hB : B ≤ w.heap.size) : Wr B b w w' := ⟨h.mono hB, Lib.OthersKept.below (Lib.OthersKept.refl _ _ w) h⟩
theorem Wr.alloc {B b : Nat} (w : World) (o : Obj) (hB : B ≤ w.heap.size) : Wr B b w (w.alloc o) := Wr.below ((Below.refl _ w).alloc (Nat.le_refl _) o) hB
theorem Wr.drew {B b : Nat} (w : World) : Wr B b w w.drew := ⟨⟨rfl, rfl, rfl, Nat.le_refl _, fun _ _ => rfl⟩, Lib.OthersKept.drew (Lib.OthersKept.refl _ _ w)⟩
theorem Wr.size {B b : Nat} {w w' : World} (h : Wr B b w w') : w.heap.size ≤ w'.heap.size := h.1.size
theorem Wr.block {B b : Nat} {w w' : World} (h : Wr B b w w') {k : Nat} {cs : Array Value} {T : TypeId} {fz : Nat × Nat} (hk : w.heap[k]? = some (.cells cs T fz)) (hn : k ≠ b) (hT : T ≠ 5) : w'.heap[k]? = some (.cells cs T fz) :=
 h.2 k _ hk (fun e => hn (by injection e)) (fun c f e => hT (by injection e))
theorem Bdf.lt {B b : Nat} {l : By} {w : World} (h : Bdf B b l w) : B ≤ b ∧ b < w.heap.size := by
 rcases h with ⟨h1, v, h2, -⟩ | ⟨h1, v, h2, -⟩ <;> exact ⟨h1, lt_of_block h2⟩
theorem Bdf.below {B b : Nat} {l : By} {w w' : World} (h : Bdf B b l w) (hb : Below w.heap.size w w') : Bdf B b l w' := by
 have step : ∀ p, Lib.BuilderAtF 136 5 B b p (Lib.byteCells l) w → Lib.BuilderAtF 136 5 B b p (Lib.byteCells l) w' := by
  rintro p ⟨hB, v, h2, h3, h4⟩
  refine ⟨hB, v, (hb.block _ (lt_of_block h2)).trans h2, ?_, h4⟩
  obtain ⟨h5, h6⟩ := h3
  refine ⟨h5, ?_⟩
  rcases h6 with h6 | ⟨g, cap, cur, fz, hv, hBg, hg, hr⟩
  · exact .inl h6
  · exact .inr ⟨g, cap, cur, fz, hv, hBg, (hb.block _ (lt_of_block hg)).trans hg, hr⟩
 exact h.imp (step _) (step _)
theorem Bdf.fresh (w : World) : Bdf w.heap.size w.heap.size [] (w.alloc (.cells #[.pointer none, .slice none 0 0] 136)) := Lib.IsBuilderF.of (Lib.fresh_isBuilder _ _ w)
theorem writeString_calls (B b : Nat) (l : By) (s : ByteArray) (w : World) (h : Bdf B b l w) (hlen : l.length + s.size ≤ 140737488355328) (hBw : B ≤ w.heap.size) :
 Calls Tryz.prog 67 #[.pointer (some ⟨b, 0, none⟩), .string s] w fun e w' => e = .returned (.tuple #[.int .i64 s.size, .nilIface]) ∧ Bdf B b (l ++ bl s) w' ∧ Wr B b w w' := by
 refine (Any.Builder_WriteString_k Lb.n166 Lb.extra B b _ s w h (by rw [Lib.byteCells_length]; exact hlen) hBw).mono ?_
 rintro e w' ⟨rfl, h1', h2, h3⟩
 refine ⟨rfl, .inr ?_, h2, h3⟩
 rw [Lib.byteCells_append]
 exact h1'
theorem string_calls (B b : Nat) (l : By) (w : World) (h : Bdf B b l w) (hBw : B ≤ w.heap.size) :
 Calls Tryz.prog 69 #[.pointer (some ⟨b, 0, none⟩)] w fun e w' => e = .returned (.string ⟨l.toArray⟩) ∧ Below B w w' := by
 refine (Any.Builder_String_any_k Lb.n169 Lb.extra B b l w h hBw).mono ?_
 rintro e w' ⟨rfl, -, h2, -⟩
 exact ⟨rfl, h2⟩
def joinW : List By → By
 | [] => []
 | [x] => x
 | x :: r => x ++ 32 :: joinW r
theorem join_eq : ∀ (l : List By), Lib.join l [32] = joinW l
 | [] => by simp [Lib.join, joinW]
 | [x] => by simp [Lib.join, List.intercalate, joinW]
 | x :: y :: r => by
   have := join_eq (y :: r)
   unfold Lib.join at this ⊢
   rw [joinW.eq_3 _ _ (by simp), ← this]
   simp [List.intercalate]
theorem join_calls (ws : List ByteArray) (bk o c : Nat) (w : World) (hc : ∀ (j : Nat) x, ws[j]? = some x → w.cell? ⟨bk, o + j, none⟩ = some (.string x)) (hbk : bk < w.heap.size) (hN : ws.length ≤ 16777216) (hcap : ws.length ≤ c) (hlen : (joinW (bls ws)).length ≤ 16777216) :
 Calls Tryz.prog 111 #[.slice (some ⟨bk, o, none⟩) ws.length c, .string ⟨#[32]⟩] w fun e w' => e = .returned (.string (mkB (joinW (bls ws)))) ∧ Below w.heap.size w w' := by
 have e : Lib.join (ws.map (·.data.toList)) (⟨#[32]⟩ : ByteArray).data.toList = joinW (bls ws) := join_eq _
 have := Tryz.strings_Join bk o c ws ⟨#[32]⟩ w hc hbk (by omega) hcap (by rw [e]; omega)
 rw [e] at this
 exact this
attribute [local go_sem ↓] Go.wp_at_zero Go.wp_at_succ
set_option maxHeartbeats 4000000 in
theorem act_calls (B bo q : Nat) (l : By) (ws : List ByteArray) (bk o c : Nat) (w : World) (hb : Bdf B bo l w) (hBw : B ≤ w.heap.size) (hq : w.heap[q]? = some (.cells #[.pointer (some ⟨bo, 0, none⟩)] 133 (0, 0)))
 (hc : ∀ (j : Nat) x, ws[j]? = some x → w.cell? ⟨bk, o + j, none⟩ = some (.string x)) (hbk : bk < w.heap.size) (hN : ws.length ≤ 16777216) (hcap : ws.length ≤ c) (hlj : (joinW (bls ws)).length ≤ 16777216) (hll : l.length ≤ 16777216) :
 Calls Tryz.prog 110 #[.slice (some ⟨bk, o, none⟩) ws.length c, .pointer (some ⟨q, 0, none⟩)] w fun e w' => e = .returned (.tuple #[]) ∧ Bdf B bo (l ++ (bra ++ joinW (bls ws) ++ ket)) w' ∧ Wr B bo w w' := by
 have hql := lt_of_block hq
 have hq0 : w.cell? ⟨q, 0, none⟩ = some (.pointer (some ⟨bo, 0, none⟩)) := by rw [cell_of_heap' hq]; rfl
 have JC : Hid (∀ W, Wr B bo w W → Below w.heap.size w W → Calls Tryz.prog 111 #[.slice (some ⟨bk, o, none⟩) ws.length c, .string ⟨#[32]⟩] W fun e w' => e = .returned (.string (mkB (joinW (bls ws)))) ∧ Below W.heap.size W w') := fun W _ hW =>
  join_calls ws bk o c W (fun j x hx => (hW.cell (p := ⟨bk, o + j, none⟩) hbk).trans (hc j x hx)) (by have := hW.size; omega) hN hcap hlj
 have HB := Lib.hid hb
 have HBW := Lib.hid hBw
 have hsz : (mkB (joinW (bls ws))).size ≤ 16777216 := hlj
 have hbl : bl ((⟨#[123, 123]⟩ ++ mkB (joinW (bls ws))) ++ ⟨#[125, 125]⟩) = bra ++ joinW (bls ws) ++ ket := by simp [bl, mkB, bra, ket]
 have HBL := Lib.hid hbl
 have hz2 : ((⟨#[123, 123]⟩ ++ mkB (joinW (bls ws))) ++ ⟨#[125, 125]⟩ : ByteArray).size ≤ 16777220 := by
  rw [ByteArray.size_append, ByteArray.size_append]
  have : (⟨#[123, 123]⟩ : ByteArray).size = 2 := rfl
  have : (⟨#[125, 125]⟩ : ByteArray).size = 2 := rfl
  omega
 have HZ2 := Lib.hid hz2
 clear hc hb hq hbk hN hcap hlj hbl hz2
 generalize mkB (joinW (bls ws)) = J at *
 go_enter Tryz.func110, Tryz.ntmps110
 go_region_with (first
  | (go_at_call 111; refine (JC.out _ (Wr.drew _) ⟨rfl, rfl, rfl, Nat.le_refl _, fun _ _ => rfl⟩).mono ?_; rintro e w1 ⟨rfl, hb1⟩; have hq1 : w1.cell? ⟨q, 0, none⟩ = some (.pointer (some ⟨bo, 0, none⟩)) := (hb1.cell (p := ⟨q, 0, none⟩) hql).trans hq0; have HB1 : Hid (Below w.heap.size w w1) := (show Below w.heap.size w w.drew from ⟨rfl, rfl, rfl, Nat.le_refl _, fun _ _ => rfl⟩).trans hb1; clear hb1 hq0)
  | (go_at_call 67; refine (writeString_calls B bo l _ _ (HB.out.below HB1.out) (by have := HZ2.out; omega) (by have := HBW.out; have := HB1.out.size; omega)).mono ?_; rintro e w2 ⟨rfl, hb2, hw2⟩; rw [HBL.out] at hb2; have HB2 := Lib.hid hb2; have HW2 := Lib.hid hw2; clear hb2 hw2))
 all_goals
  go_wp2_with fail
  go_end0
  exact ⟨rfl, HB2.out, (Wr.below HB1.out HBW.out).trans HW2.out⟩
def WrSaid (n : Nat) : Prop := ∀ (t : Pt), t.cnt < n → ∀ (B bo : Nat) (l : By) (v : Value) (w : World), t.sm → t.cnt ≤ 16777216 → l.length + (t.src false).length ≤ 16777216 → Parts (· < B) w v t → Bdf B bo l w → B ≤ w.heap.size →
 Calls Tryz.prog 68 #[.pointer (some ⟨bo, 0, none⟩), v] w fun e w' => e = .returned (.tuple #[]) ∧ Bdf B bo (l ++ t.src false) w' ∧ Wr B bo w w'
def Ahead (B : Nat) (a : Option Addr) (b o : Nat) (w : World) (k : Nat) (af : Bool) : Prop :=
 match k with
 | 0 => af = false
 | j + 1 => ∃ kd : Nat, a = some ⟨b, o, none⟩ ∧ b < B ∧ w.cell? ⟨b, o + j * 8, none⟩ = some (.int .u8 (kd : Nat)) ∧ af = decide (kd = 1)
def lkCl (k : Nat) : Nat := if k = 1 then 1 else if k = 2 then 2 else if k = 3 ∨ k = 4 then 3 else if k = 5 then 5 else 0
theorem lkCl_mem (k : Nat) : lkCl k ∈ [0, 1, 2, 3, 5] := by unfold lkCl; repeat' split
                                                            all_goals decide
theorem lkCl_k {k q : Nat} (h : lkCl k = q) : (q = 1 → k = 1) ∧ (q = 2 → k = 2) ∧ (q = 3 → k = 3 ∨ k = 4) ∧ (q = 5 → k = 5) ∧ (q = 0 → k ≠ 1 ∧ k ≠ 2 ∧ k ≠ 3 ∧ k ≠ 4 ∧ k ≠ 5) := by
 unfold lkCl at h
 (repeat' split at h) <;> (refine ⟨?_, ?_, ?_, ?_, ?_⟩ <;> intro e <;> omega)
structure PbCs (P : Nat) (h : Hd) (vn vk ve : Value) (w : World) : Prop where
 p0 : w.cell? ⟨P, 0, none⟩ = some (.int .u8 (h.kind : Nat))
 p2 : w.cell? ⟨P, 2, none⟩ = some (.string h.text)
 p3 : w.cell? ⟨P, 3, none⟩ = some (.bool h.root)
 p4 : w.cell? ⟨P, 4, none⟩ = some vn
 p5 : w.cell? ⟨P, 5, none⟩ = some (.string h.name)
 p6 : w.cell? ⟨P, 6, none⟩ = some vk
 p7 : w.cell? ⟨P, 7, none⟩ = some ve
theorem pbCs {P : Nat} {h : Hd} {vn vk ve : Value} {w : World} (hp : w.heap[P]? = some (.cells (pCells h vn vk ve) 56 (0, 0))) : PbCs P h vn vk ve w :=
 ⟨by rw [cell_of_heap' hp]; rfl, by rw [cell_of_heap' hp]; rfl, by rw [cell_of_heap' hp]; rfl, by rw [cell_of_heap' hp]; rfl, by rw [cell_of_heap' hp]; rfl, by rw [cell_of_heap' hp]; rfl, by rw [cell_of_heap' hp]; rfl⟩
def pieceB (h : Hd) (k e : Pt) (af : Bool) : By :=
 if h.kind = 1 then (if af then noteS else []) ++ bl h.text
 else if h.kind = 2 then bra ++ wayS h.root (bls h.names) ++ ket
 else if h.kind = 5 then bra ++ (kCall ++ 32 :: bl h.name ++ 32 :: wayS h.root (bls h.names)) ++ ket
 else if h.kind = 3 ∨ h.kind = 4 then
  bra ++ ((if h.kind = 4 then kRange else kIf) ++ 32 :: wayS h.root (bls h.names)) ++ ket ++ Pt.src false k ++ (if e.isNil then [] else elseS ++ Pt.src false e) ++ endS
 else []
theorem src_cons (h : Hd) (k e r : Pt) (af : Bool) : Pt.src af (.cons h k e r) = pieceB h k e af ++ Pt.src (decide (h.kind = 1)) r := rfl
set_option maxRecDepth 100000 in
set_option maxHeartbeats 40000000 in
noncomputable def writeCap (n : Nat) (IH : Hid (WrSaid n)) (t : Pt) (hn : t.cnt < n + 1) (B bo : Nat) (l : By) (c : Nat) (w : World) (HSM : Hid t.sm) (hcnt : t.cnt ≤ 16777216) (HLEN : Hid (l.length + (t.src false).length ≤ 16777216)) (h1 : t.len ≤ c) (h2 : c ≤ maxLen) (hbo : B ≤ bo ∧ bo < w.heap.size)
 (HBB : Hid (Bdf B bo l w)) (HB : Hid (B ≤ w.heap.size)) (b o : Nat) (hlc : t.len ≤ t.cnt) :
 PSigma fun P : Nat → Prop => ∀ (a : Option Addr) (HR : Hid (t ≠ .nil → a = some ⟨b, o, none⟩ ∧ b < B ∧ Row (· < B) w t b o)), (∀ u, u ∈ [0, 1, 2, 3, 5] → P u) →
  Calls Tryz.prog 68 #[.pointer (some ⟨bo, 0, none⟩), .slice a t.len c] w fun e w' => e = .returned (.tuple #[]) ∧ Bdf B bo (l ++ t.src false) w' ∧ Wr B bo w w' := by
 refine ⟨?P, fun a HR CAP => ?main⟩
 case main =>
  have hc64 : c ≤ 9223372036854775807 := by unfold maxLen at h2; exact h2
  have HW1 : Hid (Wr B bo w (w.alloc (.cells #[.pointer (some ⟨bo, 0, none⟩)] 133))) := Wr.alloc w _ HB.out
  have HQ : Hid ((w.alloc (.cells #[.pointer (some ⟨bo, 0, none⟩)] 133)).heap[w.heap.size]? = some (.cells #[.pointer (some ⟨bo, 0, none⟩)] 133 (0, 0))) := heap_alloc_new w _
  have HB1 := Lib.hid (HBB.out.below ((Below.refl _ w).alloc (Nat.le_refl _) (.cells #[.pointer (some ⟨bo, 0, none⟩)] 133)))
  go_enter Tryz.func68, Tryz.ntmps68
  go_wp2_with fail
  generalize hWW : World.alloc w (.cells #[.pointer (some ⟨bo, 0, none⟩)] 133) = W1 at *
  clear hWW
  go_loopw [11] (fun i wr => ∃ (k : Nat) (l' : By) (t' : Pt) (af : Bool), i = .int .i64 k ∧ k + t'.len = t.len ∧ Hid (Bdf B bo l' wr) ∧ Hid (Wr B bo W1 wr) ∧ Hid (t' ≠ .nil → a = some ⟨b, o, none⟩ ∧ b < B ∧ Row (· < B) w t' b (o + k * 8)) ∧
   Hid t'.sm ∧ t'.cnt ≤ t.cnt ∧ Hid (l' ++ t'.src af = l ++ t.src false) ∧ Hid (Ahead B a b o w k af)) (fun i _ => t.len - (intOf i).toNat)
  case atStart => exact ⟨0, l, t, false, rfl, by omega, HB1, Wr.refl _ _ _, by rw [Nat.zero_mul, Nat.add_zero]; exact HR, HSM, Nat.le_refl _, rfl, rfl⟩
  case round =>
   obtain ⟨k, l', t', af, rfl, hk, HBD, HWR, HRW, HS, hcn, HE, HA⟩ := hrel
   cases t' with
   | nil =>
     simp only [Pt.len] at hk
     have hge : ¬ (k : Int) < (t.len : Int) := by omega
     have HEE : Hid (l' = l ++ t.src false) := by have := HE.out; unfold Hid; simpa [Pt.src] using this
     go_wp2_with fail
     go_end0
     exact ⟨rfl, by rw [← HEE.out]; exact HBD.out, HW1.out.trans HWR.out⟩
   | cons h kd el r =>
     obtain ⟨rfl, hbB, hrow⟩ := HRW.out (by simp)
     have HWW := Lib.hid (HW1.out.trans HWR.out)
     have hrow' := Row.kept (Kept.of_below HWW.out.1) _ _ _ hbB hrow
     obtain ⟨⟨g0, g1, g2, g3, ⟨vn, g4, hstr⟩, g5⟩, ⟨ak, ck, g6, k1, k2, k3⟩, ⟨ae, ce, g7, e1, e2, e3⟩, -⟩ := hrow'
     have HRR := Lib.hid hrow.2.2.2
     have HC0 := Lib.hid hrow.1.1
     simp only [Pt.len] at hk
     simp only [Pt.cnt] at hcn
     have hkc := len_le_cnt kd
     have hec := len_le_cnt el
     have hkt : (k : Int) < (t.len : Int) := by omega
     obtain ⟨hsmh, hsmk, hsme, hsmr⟩ := HS.out
     obtain ⟨s0, -⟩ := hsmh
     have HQW : Hid (wr.heap[w.heap.size]? = some (.cells #[.pointer (some ⟨bo, 0, none⟩)] 133 (0, 0))) := HWR.out.block HQ.out (by omega) (by decide)
     have hbw := HBD.out.lt
     have hqw := lt_of_block HQW.out
     have hBw : B ≤ wr.heap.size := by omega
     have HSR : Hid (r ≠ .nil → some (⟨b, o, none⟩ : Addr) = some ⟨b, o, none⟩ ∧ b < B ∧ Row (· < B) w r b (o + (k + 1) * 8)) := fun _ => ⟨rfl, hbB, by have := HRR.out; rwa [show o + k * 8 + 8 = o + (k + 1) * 8 by omega] at this⟩
     have HLT : Hid (l'.length + (pieceB h kd el af).length ≤ 16777216) := by
      have h1 := HLEN.out
      have h2 := congrArg List.length HE.out
      rw [src_cons] at h2
      simp only [List.length_append] at h2
      unfold Hid; omega
     have PC : Hid (∀ W, Wr B bo wr W → (wayS h.root (bls h.names)).length ≤ 16777216 → Calls Tryz.prog 112 #[.agg #[.bool h.root, vn]] W fun e w' => e = .returned (.string (mkB (wayS h.root (bls h.names)))) ∧ Below W.heap.size W w') := fun W hW hl =>
      path_calls (· < B) h.root h.names hl vn W (hstr.kept (Kept.of_below hW.1)) (fun b hb => by have := hW.size; have hb' : b < B := hb; omega)
     have KC : Hid (∀ W L, Wr B bo wr W → Bdf B bo L W → L.length + (kd.src false).length ≤ 16777216 → Calls Tryz.prog 68 #[.pointer (some ⟨bo, 0, none⟩), .slice ak kd.len ck] W fun e w' => e = .returned (.tuple #[]) ∧ Bdf B bo (L ++ kd.src false) w' ∧ Wr B bo W w') := fun W L hW hb hl =>
      IH.out kd (by omega) B bo L _ W hsmk (by omega) hl (Parts.kept ⟨ak, ck, rfl, k1, k2, k3⟩ (Kept.of_below hW.1)) hb (Nat.le_trans hBw hW.size)
     have EC : Hid (∀ W L, Wr B bo wr W → Bdf B bo L W → L.length + (el.src false).length ≤ 16777216 → Calls Tryz.prog 68 #[.pointer (some ⟨bo, 0, none⟩), .slice ae el.len ce] W fun e w' => e = .returned (.tuple #[]) ∧ Bdf B bo (L ++ el.src false) w' ∧ Wr B bo W w') := fun W L hW hb hl =>
      IH.out el (by omega) B bo L _ W hsme (by omega) hl (Parts.kept ⟨ae, ce, rfl, e1, e2, e3⟩ (Kept.of_below hW.1)) hb (Nat.le_trans hBw hW.size)
     have AC : Hid (∀ W L, Wr B bo wr W → Bdf B bo L W → ∀ (ws : List ByteArray) (bk : Nat), (∀ (j : Nat) x, ws[j]? = some x → W.cell? ⟨bk, 0 + j, none⟩ = some (.string x)) → bk < W.heap.size → ws.length ≤ 3 → L.length + (joinW (bls ws)).length ≤ 16777216 →
      Calls Tryz.prog 110 #[.slice (some ⟨bk, 0, none⟩) ws.length ws.length, .pointer (some ⟨w.heap.size, 0, none⟩)] W fun e w' => e = .returned (.tuple #[]) ∧ Bdf B bo (L ++ (bra ++ joinW (bls ws) ++ ket)) w' ∧ Wr B bo W w') := fun W L hW hb ws bk hc hbk hN hl =>
      act_calls B bo w.heap.size L ws bk 0 ws.length W hb (Nat.le_trans hBw hW.size) (hW.block HQW.out (by omega) (by decide)) hc hbk (by omega) (Nat.le_refl _) (by omega) (by omega)
     have HQC : Hid (∀ W, Wr B bo wr W → W.cell? ⟨w.heap.size, 0, none⟩ = some (.pointer (some ⟨bo, 0, none⟩))) := fun W hW => by rw [cell_of_heap' (hW.block HQW.out (by omega) (by decide))]; rfl
     have HKI := Lib.hid hk
     have hki : k + 1 + r.len ≤ t.len := by omega
     have HPB : Hid (∀ W, Wr B bo (wr.alloc (.cells (pCells h vn (.slice ak kd.len ck) (.slice ae el.len ce)) 56 (0, 0))) W → PbCs wr.heap.size h vn (.slice ak kd.len ck) (.slice ae el.len ce) W) := fun W hW =>
      pbCs (hW.block (heap_alloc_new wr _) (by omega) (by decide))
     have HAL : Hid (Wr B bo wr (wr.alloc (.cells (pCells h vn (.slice ak kd.len ck) (.slice ae el.len ce)) 56 (0, 0)))) := Wr.alloc wr _ hBw
     have HBA : Hid (Bdf B bo l' (wr.alloc (.cells (pCells h vn (.slice ak kd.len ck) (.slice ae el.len ce)) 56 (0, 0)))) := HBD.out.below ((Below.refl _ wr).alloc (Nat.le_refl _) _)
     have HAC : Hid (∀ W, Wr B bo w W → ∀ j, k = j + 1 → ∃ kd : Nat, W.cell? ⟨b, o + j * 8, none⟩ = some (.int .u8 (kd : Nat)) ∧ af = decide (kd = 1)) := fun W hW j hj => by
      have := HA.out; rw [hj] at this
      obtain ⟨kd, -, h2, h3, h4⟩ := this
      exact ⟨kd, (hW.1.cell (p := ⟨b, o + j * 8, none⟩) h2).trans h3, h4⟩
     have HAZ : Hid (k = 0 → af = false) := fun e => by have := HA.out; rw [e] at this; exact this
     have HAN : Hid (Ahead B (some ⟨b, o, none⟩) b o w (k + 1) (decide (h.kind = 1))) := ⟨h.kind, rfl, hbB, HC0.out, rfl⟩
     obtain ⟨an, cn, rfl, n1, n2, -⟩ := hstr
     clear hrow k3 e3 hsmk hsme hk HA HRR HC0 HRW HS HB1 HQW hkc hec
     clear HR
     obtain ⟨u, hu⟩ : ∃ u : Nat, lkCl h.kind = u := ⟨_, rfl⟩
     have HC := CAP u (hu ▸ lkCl_mem _)
     clear CAP
     revert W1 HW1 HQ wr u5 u6 u7 u12 u13 u14 u15 u16 u17 u18 u19 u20 u21 u22 u23 u24 u25 u26 u27 u28 u29 u30 u31 u32 u33 u34 u35 u36 u37 u38 u39 u40 u41 u42 u43 u44 u45 u46 u47 u48 u49 u50 u51 u52 u53 u54 u55 u56 u57 u58 u59 u60 u61 u62 u63 u64 u65 u66 u67 u68 u69 u70 u71 u72 u73 u74 u75 u76 u77 u78 u79 u80 u81 u82 u83 u84 u85 u86 u87 k l' af HBD HWR h kd el r hcn HE hbB HWW g0 g1 g2 g3 g5 ak ck g6 k1 k2 ae ce g7 e1 e2 hkt hsmr s0 hbw hqw hBw HSR HLT an cn PC KC EC AC HQC HKI hki HPB HAL HBA HAC HAZ HAN g4 n1 n2 hc64 hu
     exact HC
theorem ac_new {B bo q : Nat} {wr : World} (AC : ∀ W L, Wr B bo wr W → Bdf B bo L W → ∀ (ws : List ByteArray) (bk : Nat), (∀ (j : Nat) x, ws[j]? = some x → W.cell? ⟨bk, 0 + j, none⟩ = some (.string x)) → bk < W.heap.size → ws.length ≤ 3 → L.length + (joinW (bls ws)).length ≤ 16777216 →
 Calls Tryz.prog 110 #[.slice (some ⟨bk, 0, none⟩) ws.length ws.length, .pointer (some ⟨q, 0, none⟩)] W fun e w' => e = .returned (.tuple #[]) ∧ Bdf B bo (L ++ (bra ++ joinW (bls ws) ++ ket)) w' ∧ Wr B bo W w')
 (W : World) (L : By) (hW : Wr B bo wr W) (hb : Bdf B bo L W) (hBz : B ≤ W.heap.size) (ws : List ByteArray) (hN : ws.length ≤ 3) (hl : L.length + (joinW (bls ws)).length ≤ 16777216) :
 Calls Tryz.prog 110 #[.slice (some ⟨W.heap.size, 0, none⟩) ws.length ws.length, .pointer (some ⟨q, 0, none⟩)] (W.alloc (.cells (ws.map Value.string).toArray 9)) fun e w' => e = .returned (.tuple #[]) ∧ Bdf B bo (L ++ (bra ++ joinW (bls ws) ++ ket)) w' ∧ Wr B bo W w' := by
 refine (AC (W.alloc (.cells (ws.map Value.string).toArray 9)) L (hW.trans (Wr.alloc W _ hBz)) (hb.below ((Below.refl _ W).alloc (Nat.le_refl _) _)) ws W.heap.size (fun j x hx => ?_) (by simp) hN hl).mono ?_
 · rw [cell_of_heap' (heap_alloc_new W _)]; simp [hx]
 · rintro e w' ⟨h1, h2, h3⟩
   exact ⟨h1, h2, (Wr.alloc W _ hBz).trans h3⟩
theorem nil_len (t : Pt) : t.isNil = decide (t.len = 0) := by cases t <;> simp [Pt.isNil, Pt.len]
end Go.Proofs.YtepcpgdfbaklfaaGreatDoor
