/- Values in memory: laws on rows of values; the contract of lacunaref00.SameValue where both are the same. The condition: lists and texts of at most 2 to the 47th bytes. -/
import Derived.Test.YtepcpgdfbaklfaaGreatDoorMcTs0
import Derived.Test.YtepcpgdfbaklfaaGreatDoorMcE0
import Derived.Test.YtepcpgdfbaklfaaGreatDoorTc0C
import Derived.Deep.RegionHeld3
set_option linter.unusedSimpArgs false
set_option linter.unusedVariables false
namespace Go.Proofs.YtepcpgdfbaklfaaGreatDoor
open Go.RowKit Go.Shelf Ev
attribute [local go_sem ↓] Go.wp_at_zero Go.wp_at_succ
theorem RowX.lt {ok : Nat → Prop} {w : World} : ∀ (t : Vl) (b o : Nat), RowX ok w t b o → RowX (fun b => ok b ∧ b < w.heap.size) w t b o := by
 intro t
 induction t with
 | nil => intro b o _; exact trivial
 | cons h k r ihk ihr =>
   rintro b o ⟨⟨c0, c1, c2, c3, c4, v, c5, hs⟩, ⟨ak, ck, c6, k1, k2, k3⟩, hrest⟩
   refine ⟨⟨c0, c1, c2, c3, c4, v, c5, hs.lt⟩, ⟨ak, ck, c6, k1, k2, fun hn => ?_⟩, ihr b _ hrest⟩
   obtain ⟨b', o', h1, h2, h3⟩ := k3 hn
   refine ⟨b', o', h1, ⟨h2, ?_⟩, ihk b' o' h3⟩
   cases k with
   | nil => exact absurd rfl hn
   | cons _ _ _ => exact lt_of_cell h3.1.1
theorem Vals.lt {ok : Nat → Prop} {w : World} {v : Value} {t : Vl} (h : Vals ok w v t) : Vals (fun b => ok b ∧ b < w.heap.size) w v t := by
 obtain ⟨a, c, hv, h1, h2, h3⟩ := h
 refine ⟨a, c, hv, h1, h2, fun hl => ?_⟩
 obtain ⟨b, o, ha, hb, hc⟩ := h3 hl
 refine ⟨b, o, ha, ⟨hb, ?_⟩, RowX.lt _ _ _ hc⟩
 cases t with
 | nil => exact absurd rfl hl
 | cons _ _ _ => exact lt_of_cell hc.1.1
theorem ValM.lt {ok : Nat → Prop} {w : World} {v : Value} {x : Va} (h : ValM ok w v x) : ValM (fun b => ok b ∧ b < w.heap.size) w v x := by
 obtain ⟨vk, vi, hv, h1, h2⟩ := h
 exact ⟨vk, vi, hv, h1.lt, Vals.lt h2⟩
def xCells (h : Vh) (vk vi : Value) : Array Value := #[.int .u8 (h.kind : Nat), .bool h.b, .int .i64 h.n, .int .u64 (h.bits : Nat), .string h.text, vk, vi]
structure XcCs (P : Nat) (h : Vh) (vk vi : Value) (w : World) : Prop where
 p0 : w.cell? ⟨P, 0, none⟩ = some (.int .u8 (h.kind : Nat))
 p1 : w.cell? ⟨P, 1, none⟩ = some (.bool h.b)
 p2 : w.cell? ⟨P, 2, none⟩ = some (.int .i64 h.n)
 p3 : w.cell? ⟨P, 3, none⟩ = some (.int .u64 (h.bits : Nat))
 p4 : w.cell? ⟨P, 4, none⟩ = some (.string h.text)
 p5 : w.cell? ⟨P, 5, none⟩ = some vk
 p6 : w.cell? ⟨P, 6, none⟩ = some vi
theorem xcCs {P : Nat} {h : Vh} {vk vi : Value} {w : World} (hp : w.heap[P]? = some (.cells (xCells h vk vi) 31 (0, 0))) : XcCs P h vk vi w :=
 ⟨by rw [cell_of_heap' hp]; rfl, by rw [cell_of_heap' hp]; rfl, by rw [cell_of_heap' hp]; rfl, by rw [cell_of_heap' hp]; rfl, by rw [cell_of_heap' hp]; rfl, by rw [cell_of_heap' hp]; rfl, by rw [cell_of_heap' hp]; rfl⟩
def RestX (ok : Nat → Prop) (a : Option Addr) (w : World) (r : Vl) (k : Nat) : Prop := r ≠ .nil → ∃ b o, a = some ⟨b, o, none⟩ ∧ (ok b ∧ b < w.heap.size) ∧ RowX (fun b => ok b ∧ b < w.heap.size) w r b (o + k * 7)
theorem Vals.rest {ok : Nat → Prop} {w : World} {v : Value} {t : Vl} (h : Vals ok w v t) : ∃ a c, v = .slice a t.len c ∧ t.len ≤ c ∧ c ≤ maxLen ∧ RestX ok a w t 0 := by
 obtain ⟨a, c, rfl, h1, h2, h3⟩ := Vals.lt h
 refine ⟨a, c, rfl, h1, h2, fun hne => ?_⟩
 obtain ⟨b, o, q1, q2, q3⟩ := h3 hne
 exact ⟨b, o, q1, q2, by rw [Nat.zero_mul, Nat.add_zero]; exact q3⟩
theorem two_new7 {w : World} {x y : Obj} {w1 : World} (h : Below (w.heap.size + 2) ((w.alloc x).alloc y) w1) :
 w1.heap[w.heap.size]? = (w.alloc x).heap[w.heap.size]? ∧ w1.heap[w.heap.size + 1]? = ((w.alloc x).alloc y).heap[w.heap.size + 1]? :=
 ⟨(h.block _ (by omega)).trans (Below.heap_alloc _ _ _ (by simp)), h.block _ (by omega)⟩
def Va.wf (x : Va) : Prop := x.h.wf ∧ wfX x.items ∧ x.items.len ≤ 140737488351232
def SvSaid (n : Nat) : Prop := ∀ (x : Va), cntX x.items < n → ∀ (ok ok' : Nat → Prop) (v v' : Value) (w : World), Va.wf x → ValM ok w v x → ValM ok' w v' x →
 Calls Tryz.prog 14 #[v, v'] w fun e w' => e = .returned (.bool true) ∧ Below w.heap.size w w'
set_option maxRecDepth 100000 in
set_option maxHeartbeats 40000000 in
theorem sv_step (n : Nat) (ih : SvSaid n) : SvSaid (n + 1) := by
 intro x hn ok ok' v v' w hwf hx hx'
 obtain ⟨h, its⟩ := x
 obtain ⟨⟨-, -, -, -, -, f6, f7⟩, hwi, hwl⟩ := hwf
 dsimp only at hn f6 f7 hwi hwl
 obtain ⟨vk, vi, rfl, hk, hi⟩ := hx
 obtain ⟨vk', vi', rfl, hk', hi'⟩ := hx'
 dsimp only at hk hi hk' hi'
 have SC : Hid (∀ W, Below w.heap.size w W → Calls Tryz.prog 33 #[vk, vk'] W fun e w' => e = .returned (.bool true) ∧ Below W.heap.size W w') := fun W hW =>
  sameTexts_calls (fun b => ok b ∧ b < w.heap.size) (fun b => ok' b ∧ b < w.heap.size) h.keys f6 vk vk' W (hk.lt.kept (fun b hb => hW.block b hb.2)) (hk'.lt.kept (fun b hb => hW.block b hb.2))
 obtain ⟨a, c, rfl, -, -, h3⟩ := Vals.rest hi
 obtain ⟨a', c', rfl, -, -, h3'⟩ := Vals.rest hi'
 obtain ⟨ak, ck, rfl, -⟩ := hk
 obtain ⟨ak', ck', rfl, -⟩ := hk'
 have HX := Lib.hid h3
 have HY := Lib.hid h3'
 have HWI := Lib.hid hwi
 have IH := Lib.hid ih
 clear h3 h3' hi hi' hwi ih f7
 have HB0 : Hid (Below w.heap.size w ((w.alloc (.cells (xCells h (.slice ak h.keys.length ck) (.slice a its.len c)) 31)).alloc (.cells (xCells h (.slice ak' h.keys.length ck') (.slice a' its.len c')) 31))) := ((Below.refl _ w).alloc (Nat.le_refl _) _).alloc (by simp) _
 have HS0 : Hid (((w.alloc (.cells (xCells h (.slice ak h.keys.length ck) (.slice a its.len c)) 31)).alloc (.cells (xCells h (.slice ak' h.keys.length ck') (.slice a' its.len c')) 31)).heap.size = w.heap.size + 2) := by unfold Hid; simp
 have HTC : Hid (∀ W, Below (w.heap.size + 2) ((w.alloc (.cells (xCells h (.slice ak h.keys.length ck) (.slice a its.len c)) 31)).alloc (.cells (xCells h (.slice ak' h.keys.length ck') (.slice a' its.len c')) 31)) W → XcCs w.heap.size h (.slice ak h.keys.length ck) (.slice a its.len c) W ∧ XcCs (w.heap.size + 1) h (.slice ak' h.keys.length ck') (.slice a' its.len c') W) := fun W hW => by
  have q := two_new7 hW
  refine ⟨xcCs (q.1.trans (heap_alloc_new w _)), xcCs (q.2.trans ?_)⟩
  have := heap_alloc_new (w.alloc (.cells (xCells h (.slice ak h.keys.length ck) (.slice a its.len c)) 31)) (.cells (xCells h (.slice ak' h.keys.length ck') (.slice a' its.len c')) 31)
  rwa [show (w.alloc (.cells (xCells h (.slice ak h.keys.length ck) (.slice a its.len c)) 31)).heap.size = w.heap.size + 1 by simp] at this
 unfold xCells at HB0 HS0 HTC
 go_enter Tryz.func14, Tryz.ntmps14
 go_wp2_with fail
 generalize hWW : World.alloc (World.alloc w _) _ = W0 at *
 clear hWW
 refine (SC.out _ HB0.out).mono ?_
 rintro e w1 ⟨rfl, hb1⟩
 have HB1 : Hid (Below (w.heap.size + 2) W0 w1) := hb1.mono (by rw [HS0.out]; exact Nat.le_refl _)
 clear hb1
 obtain ⟨⟨p0, p1, p2, p3, p4, p5, p6⟩, ⟨q0, q1, q2, q3, q4, q5, q6⟩⟩ := HTC.out _ HB1.out
 go_wp2_with fail
 go_loopw [6] (fun i wr => ∃ (k : Nat) (r : Vl), i = .int .i64 (k : Nat) ∧ k + r.len = its.len ∧ Hid (Below (w.heap.size + 2) W0 wr) ∧ Hid (RestX ok a w r k) ∧ Hid (RestX ok' a' w r k) ∧ cntX r ≤ cntX its ∧ Hid (wfX r)) (fun i _ => its.len - (intOf i).toNat)
 case atStart => exact ⟨0, its, rfl, by omega, HB1, HX, HY, Nat.le_refl _, HWI⟩
 case round =>
  obtain ⟨k, r, rfl, hk, HB, HRX, HRY, hcn, HF⟩ := hrel
  clear p0 p1 p2 p3 p4 p5 p6 q0 q1 q2 q3 q4 q5 q6
  obtain ⟨⟨p0, p1, p2, p3, p4, p5, p6⟩, ⟨q0, q1, q2, q3, q4, q5, q6⟩⟩ := HTC.out _ HB.out
  have HBW : Hid (Below w.heap.size w wr) := HB0.out.trans (HB.out.mono (by omega))
  cases r with
  | nil =>
    simp only [Vl.len] at hk
    have hge : ¬ (k : Int) < (its.len : Int) := by omega
    go_wp2_with fail
    go_ret
    exact ⟨rfl, HBW.out⟩
  | cons g kd r =>
    simp only [Vl.len] at hk
    simp only [cntX] at hcn
    have hlt' : (k : Int) < (its.len : Int) := by omega
    have hk0 : (0 : Int) ≤ (k : Int) := by omega
    obtain ⟨b, o, rfl, hb, hrow⟩ := HRX.out (by simp)
    obtain ⟨b', o', rfl, hb', hrow'⟩ := HRY.out (by simp)
    have HRS : Hid (RestX ok (some ⟨b, o, none⟩) w r (k + 1)) := fun _ => ⟨b, o, rfl, hb, by have := hrow.2.2; rwa [show o + k * 7 + 7 = o + (k + 1) * 7 by omega] at this⟩
    have HSS : Hid (RestX ok' (some ⟨b', o', none⟩) w r (k + 1)) := fun _ => ⟨b', o', rfl, hb', by have := hrow'.2.2; rwa [show o' + k * 7 + 7 = o' + (k + 1) * 7 by omega] at this⟩
    obtain ⟨⟨c0, c1, c2, c3, c4, v5, c5, hs5⟩, ⟨ag, cg, c6, k1, k2, k3⟩, -⟩ := RowX.kept (fun b hb => HBW.out.block b hb.2) _ _ _ hb hrow
    obtain ⟨⟨d0, d1, d2, d3, d4, v5', d5, hs5'⟩, ⟨ag', cg', d6, k1', k2', k3'⟩, -⟩ := RowX.kept (fun b hb => HBW.out.block b hb.2) _ _ _ hb' hrow'
    obtain ⟨hwg, hwk, hwr, hkl⟩ := HF.out
    have HFR := Lib.hid hwr
    have HM1 : Hid (ValM (fun b => ok b ∧ b < w.heap.size) wr (.agg #[.int .u8 (g.kind : Nat), .bool g.b, .int .i64 g.n, .int .u64 (g.bits : Nat), .string g.text, v5, .slice ag kd.len cg]) ⟨g, kd⟩) := ⟨_, _, rfl, hs5, ag, cg, rfl, k1, k2, k3⟩
    have HM2 : Hid (ValM (fun b => ok' b ∧ b < w.heap.size) wr (.agg #[.int .u8 (g.kind : Nat), .bool g.b, .int .i64 g.n, .int .u64 (g.bits : Nat), .string g.text, v5', .slice ag' kd.len cg']) ⟨g, kd⟩) := ⟨_, _, rfl, hs5', ag', cg', rfl, k1', k2', k3'⟩
    have hsw := HBW.out.size
    have KC : Hid (∀ W, Below wr.heap.size wr W → Calls Tryz.prog 14 #[.agg #[.int .u8 (g.kind : Nat), .bool g.b, .int .i64 g.n, .int .u64 (g.bits : Nat), .string g.text, v5, .slice ag kd.len cg], .agg #[.int .u8 (g.kind : Nat), .bool g.b, .int .i64 g.n, .int .u64 (g.bits : Nat), .string g.text, v5', .slice ag' kd.len cg']] W fun e w' => e = .returned (.bool true) ∧ Below W.heap.size W w') := fun W hW =>
     IH.out ⟨g, kd⟩ (by show cntX kd < n; omega) (fun b => ok b ∧ b < w.heap.size) (fun b => ok' b ∧ b < w.heap.size) _ _ W ⟨hwg, hwk, hkl⟩ (HM1.out.kept (fun b hb => hW.block b (by have := hb.2; omega))) (HM2.out.kept (fun b hb => hW.block b (by have := hb.2; omega)))
    obtain ⟨av5, cv5, rfl, -⟩ := hs5
    obtain ⟨av5', cv5', rfl, -⟩ := hs5'
    have HKI := Lib.hid hk
    clear k3 k3' hrow hrow' hwg hwk hwr hk HM1 HM2
    go_upto_region 7 with (fail)
    go_still_tail 10, (by kernel_rfl)
    change wpList _ _ _ _ _ wr.drew
    have HBd : Hid (Below wr.heap.size wr wr.drew) := ⟨rfl, rfl, rfl, Nat.le_refl _, fun _ _ => rfl⟩
    clear c0 c1 c2 c3 c4 c5 c6 d0 d1 d2 d3 d4 d5 d6
    generalize wr.drew = w2 at *
    go_wp2_with fail
    refine (KC.out _ HBd.out).mono ?_
    rintro e w3 ⟨rfl, hb3⟩
    have HB3 : Hid (Below (w.heap.size + 2) W0 w3) := HB.out.trans ((HBd.out.trans (hb3.mono HBd.out.size)).mono (by have := HB.out.size; rw [HS0.out] at this; exact this))
    clear hb3 KC
    go_wp2_with fail
    go_roundw
    case rel => exact ⟨k + 1, r, by go_num, by have := HKI.out; omega, HB3, HRS, HSS, by omega, HFR⟩
    case measure => simp [intOf]; have := HKI.out; omega
theorem sv_all (n : Nat) : SvSaid n := by
 induction n with
 | zero => intro x h; exact absurd h (Nat.not_lt_zero _)
 | succ n ih => exact sv_step n ih
theorem sameValue_calls (x : Va) (ok ok' : Nat → Prop) (v v' : Value) (w : World) (hw : Va.wf x) (hx : ValM ok w v x) (hy : ValM ok' w v' x) :
 Calls Tryz.prog 14 #[v, v'] w fun e w' => e = .returned (.bool true) ∧ Below w.heap.size w w' :=
 sv_all (cntX x.items + 1) x (Nat.lt_succ_self _) ok ok' v v' w hw hx hy
theorem kyGo_hi (most m : Nat) (l : List ByteArray) (h : ¬ m ≤ most) : kyGo most m l = m := by
 cases l with
 | nil => rfl
 | cons s l => rw [kyGo, if_neg h]
theorem kyGo_drop (most m : Nat) (l : List ByteArray) (j : Nat) (s : ByteArray) (hs : l[j]? = some s) (hm : m ≤ most) : kyGo most m (l.drop j) = kyGo most (m + s.size) (l.drop (j + 1)) := by
 have hlt := (List.getElem?_eq_some_iff.1 hs).1
 rw [List.drop_eq_getElem_cons hlt, (List.getElem?_eq_some_iff.1 hs).2, kyGo, if_pos hm]
def WvP (most : Nat) (x : Va) (w : World) (e : Ending) (w' : World) : Prop := e = .returned (.int .i64 (wvF most x : Nat)) ∧ Below w.heap.size w w'
def WvSaid (n : Nat) : Prop := ∀ (x : Va), cntX x.items < n → ∀ (most : Nat) (ok : Nat → Prop) (v : Value) (w : World), most ≤ 16384 → Va.wf x → ValM ok w v x → Calls Tryz.prog 24 #[v, .int .i64 (most : Nat)] w (WvP most x w)
set_option maxRecDepth 100000 in
set_option maxHeartbeats 40000000 in
theorem wv_step (n : Nat) (ih : WvSaid n) : WvSaid (n + 1) := by
 intro x hn most ok v w hmost hwf hx
 have HBD := Lib.hid (wvF_bd x most hwf.1 hwf.2.1)
 obtain ⟨h, its⟩ := x
 obtain ⟨⟨-, -, -, -, f4, f6, f7⟩, hwi, hwl⟩ := hwf
 dsimp only at hn f4 f6 f7 hwi hwl
 obtain ⟨vk, vi, rfl, hk, hi⟩ := hx
 dsimp only at hk hi
 have hky := hk.lt
 obtain ⟨a, c, rfl, -, -, h3⟩ := Vals.rest hi
 obtain ⟨ak, ck, rfl, -, -, hk3⟩ := hky
 have HX := Lib.hid h3
 have HK3 := Lib.hid hk3
 have HWI := Lib.hid hwi
 have HF7 := Lib.hid f7
 have IH := Lib.hid ih
 clear h3 hi hwi ih f7 hk3 hk
 have HB0 : Hid (Below w.heap.size w (w.alloc (.cells (xCells h (.slice ak h.keys.length ck) (.slice a its.len c)) 31))) := (Below.refl _ w).alloc (Nat.le_refl _) _
 have HS0 : Hid ((w.alloc (.cells (xCells h (.slice ak h.keys.length ck) (.slice a its.len c)) 31)).heap.size = w.heap.size + 1) := by unfold Hid; simp
 have HTC : Hid (∀ W, Below (w.heap.size + 1) (w.alloc (.cells (xCells h (.slice ak h.keys.length ck) (.slice a its.len c)) 31)) W → XcCs w.heap.size h (.slice ak h.keys.length ck) (.slice a its.len c) W) := fun W hW => xcCs ((hW.block _ (by omega)).trans (heap_alloc_new w _))
 unfold xCells at HB0 HS0 HTC
 have wr1 : IntKind.i64.wrap (1 + (h.text.size : Int)) = 1 + (h.text.size : Int) := IntWalk.i64_in _ ⟨by omega, by omega⟩
 have wr2 : IntKind.i64.wrap (1 + (h.text.size : Int) + (h.keys.length : Int)) = 1 + (h.text.size : Int) + (h.keys.length : Int) := IntWalk.i64_in _ ⟨by omega, by omega⟩
 obtain ⟨M1, hM1⟩ : ∃ M1 : Nat, M1 = 1 + h.text.size + h.keys.length := ⟨_, rfl⟩
 have hM1b : M1 ≤ most + 422212465053696 := by omega
 have HWV : Hid (wvF most ⟨h, its⟩ = wvL its most (kyGo most M1 h.keys)) := by unfold Hid wvF; rw [hM1]
 have HM1 := Lib.hid hM1
 go_enter Tryz.func24, Tryz.ntmps24
 go_upto_region 2 with (fail)
 clear wr1 wr2
 have hM1i : (1 : Int) + (h.text.size : Int) + (h.keys.length : Int) = ((M1 : Nat) : Int) := by omega
 rw [hM1i]
 clear hM1i hM1
 generalize hWW : World.alloc w _ = W0 at *
 clear hWW
 go_wp2_with fail
 go_loopw [5, 6] (fun v5 v6 wr => ∃ (m j : Nat), v5 = .int .i64 (m : Nat) ∧ v6 = .int .i64 (j : Nat) ∧ j ≤ h.keys.length ∧ Hid (kyGo most m (h.keys.drop j) = kyGo most M1 h.keys) ∧ m ≤ most + 422212465053696 ∧ Hid (Below (w.heap.size + 1) W0 wr)) (fun _ j _ => h.keys.length - (intOf j).toNat)
 case atStart => exact ⟨M1, 0, rfl, rfl, Nat.zero_le _, rfl, hM1b, Below.refl _ _⟩
 case round =>
  obtain ⟨m, j, rfl, rfl, hj, HI, hmB, HB⟩ := hrel
  obtain ⟨p0, p1, p2, p3, p4, p5, p6⟩ := HTC.out _ HB.out
  have hj0 : (0 : Int) ≤ (j : Int) := by omega
  by_cases hc : j < h.keys.length ∧ m ≤ most
  · obtain ⟨hjn, hmm⟩ := hc
    have hjn' : (j : Int) < (h.keys.length : Int) := by omega
    have hmm' : (m : Int) ≤ (most : Int) := by omega
    obtain ⟨s, hjs⟩ : ∃ s, h.keys[j]? = some s := ⟨_, List.getElem?_eq_getElem hjn⟩
    obtain ⟨bk, ok', rfl, hbk, hck⟩ := HK3.out (by intro e; rw [e] at hjn; simp at hjn)
    have cs : wr.cell? ⟨bk, ok' + j, none⟩ = some (.string s) := ((HB0.out.trans (HB.out.mono (by omega))).cell (p := ⟨bk, _, none⟩) hbk.2).trans (hck j s hjs)
    have hss : s.size ≤ 140737488351232 := HF7.out s (List.mem_of_getElem? hjs)
    have HI2 : Hid (kyGo most (m + s.size) (h.keys.drop (j + 1)) = kyGo most M1 h.keys) := by
     unfold Hid; rw [← HI.out]; exact (kyGo_drop most m _ j s hjs hmm).symm
    have wr3 : IntKind.i64.wrap ((m : Int) + (s.size : Int)) = (m : Int) + (s.size : Int) := IntWalk.i64_in _ ⟨by omega, by omega⟩
    clear hjs hck
    go_wp2_with fail
    go_roundw
    case rel => exact ⟨m + s.size, j + 1, by go_num, by go_num, by omega, HI2, by omega, HB⟩
    case measure => simp [intOf]; omega
  · have HME : Hid (wvF most ⟨h, its⟩ = wvL its most m) := by
     unfold Hid
     rw [HWV.out, ← HI.out]
     by_cases hm : m ≤ most
     · rw [List.drop_of_length_le (by omega)]; rfl
     · rw [kyGo_hi _ _ _ hm]
    have hor : (¬ (j : Int) < (h.keys.length : Int)) ∨ ((j : Int) < (h.keys.length : Int) ∧ ¬ (m : Int) ≤ (most : Int)) := by omega
    clear hc HI
    rcases hor with hq | ⟨hq, hq2⟩
    all_goals
     go_wp2_with fail
     go_loopw [5, 7] (fun v5 v7 wr => ∃ (m k : Nat) (r : Vl), v5 = .int .i64 (m : Nat) ∧ v7 = .int .i64 (k : Nat) ∧ k + r.len = its.len ∧ Hid (wvF most ⟨h, its⟩ = wvL r most m) ∧ m ≤ most + 422212465053696 ∧ Hid (Below (w.heap.size + 1) W0 wr) ∧ Hid (RestX ok a w r k) ∧ cntX r ≤ cntX its ∧ Hid (wfX r)) (fun _ k _ => its.len - (intOf k).toNat)
     case atStart => exact ⟨m, 0, its, rfl, rfl, by omega, HME, hmB, HB, HX, Nat.le_refl _, HWI⟩
     case round =>
      clear HME HB p0 p1 p2 p3 p4 p5 p6 hmB hj0 hq
      obtain ⟨m, k, r, rfl, rfl, hk, HM, hmB, HB, HR, hcn, HF⟩ := hrel
      obtain ⟨p0, p1, p2, p3, p4, p5, p6⟩ := HTC.out _ HB.out
      have HBW : Hid (Below w.heap.size w wr) := HB0.out.trans (HB.out.mono (by omega))
      cases r with
      | nil =>
        simp only [Vl.len] at hk
        have hge : ¬ (k : Int) < (its.len : Int) := by omega
        have HEQ : Hid (m = wvF most ⟨h, its⟩) := HM.out.symm
        go_wp2_with fail
        go_ret
        exact ⟨by rw [← HEQ.out]; rfl, HBW.out⟩
      | cons g kd r =>
        simp only [Vl.len] at hk
        simp only [cntX] at hcn
        have hlt' : (k : Int) < (its.len : Int) := by omega
        have hk0 : (0 : Int) ≤ (k : Int) := by omega
        by_cases hmm : m ≤ most
        · have hmm' : (m : Int) ≤ (most : Int) := by omega
          obtain ⟨b, o, rfl, hb, hrow⟩ := HR.out (by simp)
          have HRS : Hid (RestX ok (some ⟨b, o, none⟩) w r (k + 1)) := fun _ => ⟨b, o, rfl, hb, by have := hrow.2.2; rwa [show o + k * 7 + 7 = o + (k + 1) * 7 by omega] at this⟩
          obtain ⟨⟨c0, c1, c2, c3, c4, v5, c5, hs5⟩, ⟨ag, cg, c6, k1, k2, k3⟩, -⟩ := RowX.kept (fun b hb => HBW.out.block b hb.2) _ _ _ hb hrow
          obtain ⟨hwg, hwk, hwr, hkl⟩ := HF.out
          have HFR := Lib.hid hwr
          have HNX : Hid (wvF most ⟨h, its⟩ = wvL r most (m + wvF (most - m) ⟨g, kd⟩)) := by unfold Hid; rw [HM.out, wvL_cons _ _ _ _ _ hmm]
          have hbd := wvF_bd ⟨g, kd⟩ (most - m) hwg hwk
          have KC : Hid (Calls Tryz.prog 24 #[.agg #[.int .u8 (g.kind : Nat), .bool g.b, .int .i64 g.n, .int .u64 (g.bits : Nat), .string g.text, v5, .slice ag kd.len cg], .int .i64 ((most - m : Nat) : Int)] wr (WvP (most - m) ⟨g, kd⟩ wr)) :=
           IH.out ⟨g, kd⟩ (by show cntX kd < n; omega) (most - m) (fun b => ok b ∧ b < w.heap.size) _ wr (by omega) ⟨hwg, hwk, hkl⟩ ⟨_, _, rfl, hs5, ag, cg, rfl, k1, k2, k3⟩
          obtain ⟨av5, cv5, rfl, -⟩ := hs5
          have HKI := Lib.hid hk
          have wr4 : IntKind.i64.wrap ((most : Int) - (m : Int)) = ((most - m : Nat) : Int) := by rw [IntWalk.i64_in _ ⟨by omega, by omega⟩]; omega
          generalize hQ : wvF (most - m) ⟨g, kd⟩ = q at *
          have wr5 : IntKind.i64.wrap ((m : Int) + (q : Int)) = (m : Int) + (q : Int) := IntWalk.i64_in _ ⟨by omega, by omega⟩
          clear k3 hrow hwg hwk hwr hk
          go_wp2_with fail
          refine KC.out.mono ?_
          rintro e w3 ⟨rfl, hb3⟩
          rw [hQ]
          have HB3 : Hid (Below (w.heap.size + 1) W0 w3) := HB.out.trans (hb3.mono (by have := HB.out.size; rw [HS0.out] at this; exact this))
          clear hb3 KC
          go_wp2_with fail
          go_roundw
          case rel => exact ⟨m + q, k + 1, r, by go_num, by go_num, by have := HKI.out; omega, HNX, by omega, HB3, HRS, by omega, HFR⟩
          case measure => simp [intOf]; have := HKI.out; omega
        · have hmm' : ¬ (m : Int) ≤ (most : Int) := by omega
          have HEQ : Hid (m = wvF most ⟨h, its⟩) := by unfold Hid; rw [HM.out, wvL_hi _ _ _ hmm]
          go_wp2_with fail
          go_ret
          exact ⟨by rw [← HEQ.out]; rfl, HBW.out⟩
theorem wv_all (n : Nat) : WvSaid n := by
 induction n with
 | zero => intro x h; exact absurd h (Nat.not_lt_zero _)
 | succ n ih => exact wv_step n ih
theorem weighValue_calls (x : Va) (most : Nat) (hm : most ≤ 16384) (ok : Nat → Prop) (v : Value) (w : World) (hw : Va.wf x) (hx : ValM ok w v x) : Calls Tryz.prog 24 #[v, .int .i64 (most : Nat)] w (WvP most x w) :=
 wv_all (cntX x.items + 1) x (Nat.lt_succ_self _) most ok v w hm hw hx
structure Stored (w w' : World) (g p n : Nat) (xs : List Value) : Prop where
 os : w'.os = w.os
 tape : w'.tape = w.tape
 output : w'.output = w.output
 size : w'.heap.size = w.heap.size
 oth : ∀ b, b ≠ g → w'.heap[b]? = w.heap[b]?
 far : ∀ o, (o < p ∨ p + n ≤ o) → w'.cell? ⟨g, o, none⟩ = w.cell? ⟨g, o, none⟩
 is : ∀ j u, xs[j]? = some u → w'.cell? ⟨g, p + j, none⟩ = some u
 len : xs.length = n
 unf : ∀ b, UnF w b → UnF w' b
theorem Stored.nil (w : World) (g p : Nat) : Stored w w g p 0 [] := ⟨rfl, rfl, rfl, rfl, fun _ _ => rfl, fun _ _ => rfl, fun j u h => by simp at h, rfl, fun _ h => h⟩
theorem Stored.snoc {w w1 : World} {g p n : Nat} {xs : List Value} (h : Stored w w1 g p n xs) {y : Value} (x : Value) (hc : w.cell? ⟨g, p + n, none⟩ = some y) : Stored w (w1.setCell ⟨g, p + n, none⟩ x) g p (n + 1) (xs ++ [x]) := by
 have hc1 : w1.cell? ⟨g, p + n, none⟩ = some y := (h.far _ (.inr (Nat.le_refl _))).trans hc
 refine ⟨h.os, h.tape, h.output, by simp [World.setCell, h.size], fun b hb => (Below.heap_setCell _ _ _ _ (fun e => hb e)).trans (h.oth b hb), fun o ho => ?_, fun j u hj => ?_, by simp [h.len], fun b hb i => by rw [World.frozen?_setCell]; exact h.unf b hb i⟩
 · rw [World.cell?_setCell_other _ _ _ _ (by intro e; injection e with _ e _; omega)]
   exact h.far o (by omega)
 · by_cases hjn : j < n
   · rw [World.cell?_setCell_other _ _ _ _ (by intro e; injection e with _ e _; omega)]
     rw [List.getElem?_append_left (by rw [h.len]; exact hjn)] at hj
     exact h.is j u hj
   · have hlt := (List.getElem?_eq_some_iff.1 hj).1
     simp only [List.length_append, List.length_singleton, h.len] at hlt
     obtain rfl : j = n := by omega
     rw [List.getElem?_append_right (by rw [h.len]; exact Nat.le_refl _), h.len, Nat.sub_self] at hj
     simp at hj
     subst hj
     exact World.cell?_setCell_same _ _ _ hc1
theorem Stored.below {w w' : World} {g p n B : Nat} {xs : List Value} (h : Stored w w' g p n xs) (hB : B ≤ g) : Below B w w' := ⟨h.os, h.tape, h.output, by rw [h.size]; exact Nat.le_refl _, fun b hb => h.oth b (by omega)⟩
theorem set7 {w : World} {g p : Nat} {y0 y1 y2 y3 y4 y5 y6 : Value} (x0 x1 x2 x3 x4 x5 x6 : Value) (c0 : w.cell? ⟨g, p, none⟩ = some y0) (c1 : w.cell? ⟨g, p + 1, none⟩ = some y1) (c2 : w.cell? ⟨g, p + 2, none⟩ = some y2) (c3 : w.cell? ⟨g, p + 3, none⟩ = some y3) (c4 : w.cell? ⟨g, p + 4, none⟩ = some y4) (c5 : w.cell? ⟨g, p + 5, none⟩ = some y5) (c6 : w.cell? ⟨g, p + 6, none⟩ = some y6) :
 Stored w (((((((w.setCell ⟨g, p, none⟩ x0).setCell ⟨g, p + 1, none⟩ x1).setCell ⟨g, p + 2, none⟩ x2).setCell ⟨g, p + 3, none⟩ x3).setCell ⟨g, p + 4, none⟩ x4).setCell ⟨g, p + 5, none⟩ x5).setCell ⟨g, p + 6, none⟩ x6) g p 7 [x0, x1, x2, x3, x4, x5, x6] :=
 (((((((Stored.nil w g p).snoc x0 c0).snoc x1 c1).snoc x2 c2).snoc x3 c3).snoc x4 c4).snoc x5 c5).snoc x6 c6
def Nu (B : Nat) (w : World) (b : Nat) : Prop := B ≤ b ∧ b < w.heap.size ∧ UnF w b
theorem own_strs_u {B : Nat} {w : World} {v : Value} {l : List ByteArray} (h : w.ownsRow B 9 1 v l.length (l.map Value.string)) : Strs (Nu B w) w v l := by
 rcases h.2 with ⟨rfl, hn⟩ | ⟨g, cap, cur, rfl, hB, hg, hle, hcap, hsz, ht⟩
 · have : l = [] := List.length_eq_zero_iff.1 hn
   subst this
   exact Strs.nil _ _
 · refine ⟨some ⟨g, 0, none⟩, cap, rfl, hle, hcap, fun _ => ⟨g, 0, rfl, ⟨hB, lt_of_block hg, frozen_cells hg⟩, fun i s hi => ?_⟩⟩
   rw [Nat.zero_add, cell_of_heap' hg, ← Array.getElem?_toList]
   have h2 : (cur.toList.take (l.length * 1))[i]? = some (.string s) := by rw [ht, List.getElem?_map, hi]; rfl
   rw [List.getElem?_take] at h2
   split at h2
   · exact h2
   · cases h2
theorem add_off (b o j : Nat) : (⟨b, o, none⟩ : Addr).add j = ⟨b, o + j, none⟩ := by unfold Addr.add; split <;> simp_all
set_option maxRecDepth 100000 in
set_option maxHeartbeats 4000000 in
theorem cloneS_calls (ok : Nat → Prop) (l : List ByteArray) (hl : l.length ≤ 16777216) (v : Value) (w : World) (h : Strs ok w v l) :
 Calls Tryz.prog 70 #[v] w fun e w' => ∃ v', e = .returned v' ∧ Strs (Nu w.heap.size w') w' v' l ∧ Below w.heap.size w w' := by
 obtain ⟨an, c, rfl, h1, h2, h3⟩ := h
 have q : ∀ (w : World) (a : Option Addr) (n c n' c' : Nat), (binOp .eql 28 (.slice a n c) (.slice none n' c')).run Tryz.prog w = .ok (.bool a.isNone) w := fun w a n c n' c' => Lib.run_eql_slice_nil w _ _ a n c n' c' Tryz.underlying28
 obtain ⟨i0, hi, hz0, hz1, hz2⟩ := info_parts infoStrC
 cases an with
 | none =>
   cases l with
   | cons y l => obtain ⟨b, o, hc, -⟩ := h3 (by simp); cases hc
   | nil =>
     clear h3
     go_enter Tryz.func70, Tryz.ntmps70
     go_wp2_with fail
     go_ret
     exact ⟨_, rfl, Strs.nil _ _, Below.refl _ _⟩
 | some ad =>
   have H3 := Lib.hid h3
   clear h3
   go_enter Tryz.func70, Tryz.ntmps70
   go_wp2_with (at_builtin; refine wpList_append_own _ rfl _ _ 28 rfl w.heap.size 9 i0 (.string ⟨#[]⟩) 1 16 Tryz.underlying28 hi hz0 hz1 hz2 rfl (by decide) _ _ _ rfl (World.ownsRow_made w #[] 0 (Nat.le_refl _) (Nat.zero_le _) rfl) ad l.length c (l.map Value.string) rfl ?qc1 ?qc2 ?qc3 ?qc4 ?qc5 ?qc6 ?_)
   case qc1 => simp
   case qc2 =>
    intro j u hj
    obtain ⟨x, hx1, rfl⟩ : ∃ x, l[j]? = some x ∧ Value.string x = u := by simpa using hj
    obtain ⟨b, o, hc, -, hcl⟩ := H3.out (by rintro rfl; simp at hx1)
    obtain rfl : ad = ⟨b, o, none⟩ := Option.some.inj hc
    rw [add_off]
    exact Lib.cell?_alloc_some _ (hcl j x hx1)
   case qc3 =>
    intro u hu
    obtain ⟨x, -, rfl⟩ := List.mem_map.1 hu
    rfl
   case qc4 => unfold maxLen; omega
   case qc5 => omega
   case qc6 => simp
   intro v' w1 hown hgrow hnil
   go_wp2_with fail
   go_ret
   refine ⟨v', rfl, own_strs_u (by simpa using hown), ?_⟩
   exact ((Below.refl _ w).alloc (Nat.le_refl _) _).grown hgrow (by simp) (by intro k hk; simp [Value.ownBlock] at hk; omega)
theorem len_zero' {k : Vl} (h : k.len = 0) : k = .nil := by
 cases k with
 | nil => rfl
 | cons _ _ _ => exact absurd h (Nat.succ_ne_zero _)
theorem infoVal : (Tryz.prog.info? 31).map (fun i => (i.zero, i.size, i.bytes)) = some (some (.agg #[.int .u8 0, .bool false, .int .i64 0, .int .u64 0, .string ⟨#[]⟩, .slice none 0 0, .slice none 0 0]), 7, 88) := by kernel_rfl
theorem RowX.cells {ok : Nat → Prop} {w : World} : ∀ (t : Vl) (b o : Nat), RowX ok w t b o → ∃ cs : List Value, cs.length = t.len * 7 ∧ (∀ j u, cs[j]? = some u → w.cell? ⟨b, o + j, none⟩ = some u) ∧ ∀ u ∈ cs, u.oneCell' = true := by
 intro t
 induction t with
 | nil => intro b o _; exact ⟨[], rfl, fun j u h => by simp at h, fun u h => by cases h⟩
 | cons h k r _ ih =>
   rintro b o ⟨⟨c0, c1, c2, c3, c4, v, c5, an, cn, rfl, hs⟩, ⟨ak, ck, c6, hk⟩, hrest⟩
   obtain ⟨cs, h1, h2, h3⟩ := ih b (o + 7) hrest
   refine ⟨[.int .u8 (h.kind : Nat), .bool h.b, .int .i64 h.n, .int .u64 (h.bits : Nat), .string h.text, .slice an h.keys.length cn, .slice ak k.len ck] ++ cs, by simp [Vl.len, h1]; omega, fun j u hj => ?_, fun u hu => ?_⟩
   · by_cases hj7 : j < 7
     · match j, hj7 with
       | 0, _ => simp at hj; subst hj; exact c0
       | 1, _ => simp at hj; subst hj; exact c1
       | 2, _ => simp at hj; subst hj; exact c2
       | 3, _ => simp at hj; subst hj; exact c3
       | 4, _ => simp at hj; subst hj; exact c4
       | 5, _ => simp at hj; subst hj; exact c5
       | 6, _ => simp at hj; subst hj; exact c6
     · rw [List.getElem?_append_right (by simp; omega)] at hj
       have := h2 _ u hj
       simp only [List.length_cons, List.length_nil] at this
       rwa [show o + 7 + (j - (0 + 1 + 1 + 1 + 1 + 1 + 1 + 1)) = o + j by omega] at this
   · simp only [List.mem_append, List.mem_cons, List.not_mem_nil, or_false] at hu
     rcases hu with (rfl | rfl | rfl | rfl | rfl | rfl | rfl) | hu
     all_goals first | rfl | exact h3 u hu
theorem RowX.move {ok ok' : Nat → Prop} {w w' : World} (hok : ∀ b, ok b → ok' b ∧ w'.heap[b]? = w.heap[b]?) : ∀ (t : Vl) (b o b' o' : Nat), (∀ j, j < t.len * 7 → w'.cell? ⟨b', o' + j, none⟩ = w.cell? ⟨b, o + j, none⟩) → RowX ok w t b o → RowX ok' w' t b' o' := by
 intro t
 induction t with
 | nil => intro b o b' o' _ _; exact trivial
 | cons h k r _ ih =>
   rintro b o b' o' hc ⟨⟨c0, c1, c2, c3, c4, v, c5, hs⟩, ⟨ak, ck, c6, k1, k2, k3⟩, hrest⟩
   simp only [Vl.len] at hc
   have hk : Kept ok w w' := fun b hb => (hok b hb).2
   refine ⟨⟨(hc 0 (by omega)).trans c0, (hc 1 (by omega)).trans c1, (hc 2 (by omega)).trans c2, (hc 3 (by omega)).trans c3, (hc 4 (by omega)).trans c4, v, (hc 5 (by omega)).trans c5, (hs.kept hk).mono fun b hb => (hok b hb).1⟩,
    ⟨ak, ck, (hc 6 (by omega)).trans c6, k1, k2, fun hn => ?_⟩, ih b (o + 7) b' (o' + 7) (fun j hj => ?_) hrest⟩
   · obtain ⟨b2, o2, h1, h2, h3⟩ := k3 hn
     exact ⟨b2, o2, h1, (hok b2 h2).1, (RowX.kept hk _ _ _ h2 h3).mono (fun b hb => (hok b hb).1)⟩
   · rw [show o' + 7 + j = o' + (7 + j) by omega, show o + 7 + j = o + (7 + j) by omega]
     exact hc (7 + j) (by omega)
def CloneX (t : Vl) (ok : Nat → Prop) (w : World) (v' : Value) (w' : World) : Prop := Below w.heap.size w w' ∧ ∃ a c, v' = .slice a t.len c ∧ t.len ≤ c ∧ c ≤ maxLen ∧
 (t ≠ .nil → ∃ g, a = some ⟨g, 0, none⟩ ∧ w.heap.size ≤ g ∧ g < w'.heap.size ∧ UnF w' g ∧ RowX (fun b => ok b ∧ b < w.heap.size) w' t g 0)
set_option maxRecDepth 100000 in
set_option maxHeartbeats 4000000 in
theorem cloneX_calls (ok : Nat → Prop) (t : Vl) (hl : t.len ≤ 16777216) (v : Value) (w : World) (h : Vals ok w v t) :
 Calls Tryz.prog 71 #[v] w fun e w' => ∃ v', e = .returned v' ∧ CloneX t ok w v' w' := by
 obtain ⟨an, c, rfl, h1, h2, h3⟩ := Vals.lt h
 have q : ∀ (w : World) (a : Option Addr) (n c n' c' : Nat), (binOp .eql 29 (.slice a n c) (.slice none n' c')).run Tryz.prog w = .ok (.bool a.isNone) w := fun w a n c n' c' => Lib.run_eql_slice_nil w _ _ a n c n' c' Tryz.underlying29
 obtain ⟨i0, hi, hz0, hz1, hz2⟩ := info_parts infoVal
 cases an with
 | none =>
   cases t with
   | cons y k l => obtain ⟨b, o, hc, -⟩ := h3 (by simp); cases hc
   | nil =>
     clear h3 h
     simp only [Vl.len]
     go_enter Tryz.func71, Tryz.ntmps71
     go_wp2_with fail
     go_ret
     exact ⟨_, rfl, Below.refl _ _, none, 0, rfl, Nat.le_refl _, by decide, fun h => absurd rfl h⟩
 | some ad =>
   obtain ⟨news, hnl, hnc, hn1⟩ : ∃ news : List Value, news.length = t.len * 7 ∧ (∀ j u, news[j]? = some u → w.cell? (ad.add j) = some u) ∧ ∀ u ∈ news, u.oneCell' = true := by
    cases t with
    | nil => exact ⟨[], rfl, fun j u h => by simp at h, fun u h => by cases h⟩
    | cons y k l =>
      obtain ⟨b, o, hc, -, hr⟩ := h3 (by simp)
      obtain rfl : ad = ⟨b, o, none⟩ := Option.some.inj hc
      obtain ⟨cs, q1, q2, q3⟩ := RowX.cells _ _ _ hr
      exact ⟨cs, q1, fun j u hj => by rw [add_off]; exact q2 j u hj, q3⟩
   have H3 := Lib.hid h3
   have HNC := Lib.hid hnc
   clear h3 h hnc
   go_enter Tryz.func71, Tryz.ntmps71
   go_wp2_with (at_builtin; refine wpList_append_own _ rfl _ _ 29 rfl w.heap.size 31 i0 _ 7 88 Tryz.underlying29 hi hz0 hz1 hz2 rfl (by decide) _ _ _ rfl (World.ownsRow_made w #[] 0 (Nat.le_refl _) (Nat.zero_le _) rfl) ad t.len c news rfl ?qc1 ?qc2 ?qc3 ?qc4 ?qc5 ?qc6 ?_)
   case qc2 =>
    intro j u hj
    exact Lib.cell?_alloc_some _ (HNC.out j u hj)
   case qc3 => exact hn1
   case qc4 => unfold maxLen; omega
   case qc5 => omega
   intro v' w1 hown hgrow hnil
   go_wp2_with fail
   go_ret
   have hB : Below w.heap.size w w1 := ((Below.refl _ w).alloc (Nat.le_refl _) _).grown hgrow (by simp) (by intro k hk; simp [Value.ownBlock] at hk; omega)
   refine ⟨v', rfl, hB, ?_⟩
   replace hown : w1.ownsRow w.heap.size 31 7 v' t.len news := by simpa using hown
   rcases hown.2 with ⟨rfl, hn⟩ | ⟨g, cap, cur, rfl, hg0, hg, hle, hcap, hsz, ht⟩
   · have ht0 := len_zero' hn
     subst ht0
     exact ⟨none, 0, rfl, Nat.le_refl _, by decide, fun h => absurd rfl h⟩
   · refine ⟨_, _, rfl, hle, hcap, fun hne => ⟨g, rfl, hg0, lt_of_block hg, frozen_cells hg, ?_⟩⟩
     obtain ⟨b, o, hc, hb, hr⟩ := H3.out hne
     obtain rfl : ad = ⟨b, o, none⟩ := Option.some.inj hc
     refine RowX.move (fun b hb => ⟨hb, hB.block b hb.2⟩) _ b o g 0 (fun j hj => ?_) hr
     have hj2 : j < news.length := by rw [hnl]; exact hj
     have e1 := HNC.out j _ (List.getElem?_eq_getElem hj2)
     rw [add_off] at e1
     rw [e1, Nat.zero_add, cell_of_heap' hg, ← Array.getElem?_toList]
     have e2 : (cur.toList.take (t.len * 7))[j]? = some news[j] := by rw [ht, List.getElem?_eq_getElem hj2]
     rw [List.getElem?_take, if_pos hj] at e2
     exact e2
def Va.sm (x : Va) : Prop := x.h.sm ∧ smX x.items ∧ cntX x.items ≤ 16777216
def Vl.app : Vl → Vl → Vl
 | .nil, y => y
 | .cons h k r, y => .cons h k (Vl.app r y)
theorem Vl.app_nil (x : Vl) : Vl.app x .nil = x := by induction x with | nil => rfl | cons h k r _ ih => simp [Vl.app, ih]
theorem Vl.app_one (x : Vl) (h : Vh) (k r : Vl) : Vl.app (Vl.app x (.cons h k .nil)) r = Vl.app x (.cons h k r) := by induction x with | nil => rfl | cons h k r _ ih => simp [Vl.app, ih]
theorem Vl.len_app (x y : Vl) : (Vl.app x y).len = x.len + y.len := by
 induction x with
 | nil => simp [Vl.app, Vl.len]
 | cons h k r _ ih => simp [Vl.app, Vl.len, ih]; omega
theorem RowX.app {ok : Nat → Prop} {w : World} (y : Vl) : ∀ (x : Vl) (b o : Nat), RowX ok w x b o → RowX ok w y b (o + x.len * 7) → RowX ok w (Vl.app x y) b o := by
 intro x
 induction x with
 | nil => intro b o _ h; simpa [Vl.len, Vl.app] using h
 | cons h k r _ ih =>
   rintro b o ⟨h1, h2, h3⟩ hy
   refine ⟨h1, h2, ih b (o + 7) h3 ?_⟩
   simp only [Vl.len] at hy
   rwa [show o + 7 + r.len * 7 = o + (r.len + 1) * 7 by omega]
theorem Strs.cases {ok : Nat → Prop} {w : World} {v : Value} {l : List ByteArray} (h : Strs ok w v l) : ∃ a c, v = .slice a l.length c := by obtain ⟨a, c, rfl, -⟩ := h; exact ⟨a, c, rfl⟩
theorem results_val {fn : Func} {k : Tmp} {b : Nat} {x0 x1 x2 x3 x4 x5 x6 : Value} {tmps : Array Value} {w : World} (h : fn.results = #[.cell k 31]) (hk : tmps.getD k undef = .pointer (some ⟨b, 0, none⟩))
 (c : ∀ j u, [x0, x1, x2, x3, x4, x5, x6][j]? = some u → w.cell? ⟨b, 0 + j, none⟩ = some u) :
 (results fn tmps).run Tryz.prog w = .ok (.agg #[x0, x1, x2, x3, x4, x5, x6]) w := by
 have c0 : w.cell? ⟨b, 0, none⟩ = some x0 := c 0 _ rfl
 have c1 : w.cell? ⟨b, 1, none⟩ = some x1 := c 1 _ rfl
 have c2 : w.cell? ⟨b, 2, none⟩ = some x2 := c 2 _ rfl
 have c3 : w.cell? ⟨b, 3, none⟩ = some x3 := c 3 _ rfl
 have c4 : w.cell? ⟨b, 4, none⟩ = some x4 := c 4 _ rfl
 have c5 : w.cell? ⟨b, 5, none⟩ = some x5 := c 5 _ rfl
 have c6 : w.cell? ⟨b, 6, none⟩ = some x6 := c 6 _ rfl
 have hk' : tmps[k]?.getD undef = .pointer (some ⟨b, 0, none⟩) := by rw [← hk]; simp
 clear c hk
 simp [results, h, hk', go_sem, c0, c1, c2, c3, c4, c5, c6]
def Ng (C g : Nat) (w : World) (b : Nat) : Prop := C ≤ b ∧ b < w.heap.size ∧ UnF w b ∧ b ≠ g
def CpX (C : Nat) (ok : Nat → Prop) (a : Option Addr) (w : World) (d r : Vl) : Prop := d.len + r.len ≠ 0 → ∃ g, a = some ⟨g, 0, none⟩ ∧ C ≤ g ∧ g < w.heap.size ∧ UnF w g ∧ RowX (Ng C g w) w d g 0 ∧ RowX ok w r g (d.len * 7)
def CdP (x : Va) (w : World) (e : Ending) (w' : World) : Prop := ∃ v', e = .returned v' ∧ ValM (Nu w.heap.size w') w' v' x ∧ Below w.heap.size w w'
def CdSaid (n : Nat) : Prop := ∀ (x : Va), cntX x.items < n → ∀ (ok : Nat → Prop) (v : Value) (w : World), Va.sm x → ValM ok w v x → Calls Tryz.prog 42 #[v] w (CdP x w)
set_option maxRecDepth 100000 in
set_option maxHeartbeats 40000000 in
theorem cd_step (n : Nat) (ih : CdSaid n) : CdSaid (n + 1) := by
 intro x hn ok v w hsm hx
 obtain ⟨h, its⟩ := x
 obtain ⟨⟨-, -, -, -, -, f6, f7⟩, hsi, hci⟩ := hsm
 dsimp only at hn f6 f7 hsi hci
 have hlc := len_le_cntX its
 obtain ⟨vk, vi, rfl, hk, hi⟩ := hx
 dsimp only at hk hi
 have KS : Hid (∀ W, Below w.heap.size w W → Calls Tryz.prog 70 #[vk] W fun e w' => ∃ v', e = .returned v' ∧ Strs (Nu W.heap.size w') w' v' h.keys ∧ Below W.heap.size W w') := fun W hW =>
  cloneS_calls (fun b => ok b ∧ b < w.heap.size) h.keys f6 vk W (hk.lt.kept (fun b hb => hW.block b hb.2))
 have KX : Hid (∀ W, Below w.heap.size w W → Calls Tryz.prog 71 #[vi] W fun e w' => ∃ v', e = .returned v' ∧ CloneX its (fun b => ok b ∧ b < w.heap.size) W v' w') := fun W hW =>
  cloneX_calls (fun b => ok b ∧ b < w.heap.size) its (by omega) vi W ((Vals.lt hi).kept (fun b hb => hW.block b hb.2))
 obtain ⟨a, c, rfl, -⟩ := hi
 obtain ⟨ak, ck, rfl, -⟩ := hk
 have HSI := Lib.hid hsi
 have IH := Lib.hid ih
 clear hsi ih f7
 have HB0 : Hid (Below w.heap.size w ((w.alloc (.cells (xCells h (.slice ak h.keys.length ck) (.slice a its.len c)) 31)).alloc (.cells #[.int .u8 0, .bool false, .int .i64 0, .int .u64 0, .string ⟨#[]⟩, .slice none 0 0, .slice none 0 0] 31))) := ((Below.refl _ w).alloc (Nat.le_refl _) _).alloc (by simp) _
 have HS0 : Hid (((w.alloc (.cells (xCells h (.slice ak h.keys.length ck) (.slice a its.len c)) 31)).alloc (.cells #[.int .u8 0, .bool false, .int .i64 0, .int .u64 0, .string ⟨#[]⟩, .slice none 0 0, .slice none 0 0] 31)).heap.size = w.heap.size + 2) := by unfold Hid; simp
 have HT0 : Hid (((w.alloc (.cells (xCells h (.slice ak h.keys.length ck) (.slice a its.len c)) 31)).alloc (.cells #[.int .u8 0, .bool false, .int .i64 0, .int .u64 0, .string ⟨#[]⟩, .slice none 0 0, .slice none 0 0] 31)).heap[w.heap.size]? = some (.cells (xCells h (.slice ak h.keys.length ck) (.slice a its.len c)) 31 (0, 0))) := (Below.heap_alloc _ _ _ (by simp)).trans (heap_alloc_new w _)
 have HR0 : Hid (((w.alloc (.cells (xCells h (.slice ak h.keys.length ck) (.slice a its.len c)) 31)).alloc (.cells #[.int .u8 0, .bool false, .int .i64 0, .int .u64 0, .string ⟨#[]⟩, .slice none 0 0, .slice none 0 0] 31)).heap[w.heap.size + 1]? = some (.cells #[.int .u8 0, .bool false, .int .i64 0, .int .u64 0, .string ⟨#[]⟩, .slice none 0 0, .slice none 0 0] 31 (0, 0))) := by
  have := heap_alloc_new (w.alloc (.cells (xCells h (.slice ak h.keys.length ck) (.slice a its.len c)) 31)) (.cells #[.int .u8 0, .bool false, .int .i64 0, .int .u64 0, .string ⟨#[]⟩, .slice none 0 0, .slice none 0 0] 31)
  rwa [show (w.alloc (.cells (xCells h (.slice ak h.keys.length ck) (.slice a its.len c)) 31)).heap.size = w.heap.size + 1 by simp] at this
 unfold xCells at HB0 HS0 HT0 HR0
 go_enter Tryz.func42, Tryz.ntmps42
 go_upto_region 1 with (fail)
 generalize hWW : World.alloc (World.alloc w _) _ = W0 at *
 clear hWW
 have x5 : W0.cell? ⟨w.heap.size, 5, none⟩ = some (.slice ak h.keys.length ck) := by rw [cell_of_heap' HT0.out]; rfl
 go_wp2_with fail
 refine (KS.out _ HB0.out).mono ?_
 rintro e w1 ⟨v1, rfl, hv1, hb1⟩
 rw [HS0.out] at hv1
 obtain ⟨a1, c1, rfl⟩ := hv1.cases
 have hs0 : w.heap.size + 1 < W0.heap.size := by have := HS0.out; omega
 have HP1 : Hid (w1.heap[w.heap.size]? = some (.cells (xCells h (.slice ak h.keys.length ck) (.slice a its.len c)) 31 (0, 0))) := (hb1.block _ (by omega)).trans HT0.out
 have HR1 := Lib.hid ((hb1.block _ hs0).trans HR0.out)
 have HB1 : Hid (Below (w.heap.size + 2) W0 w1) := hb1.mono (by rw [HS0.out]; exact Nat.le_refl _)
 have HV1 := Lib.hid hv1
 clear hb1 hv1 x5
 have y5 : w1.cell? ⟨w.heap.size, 5, none⟩ = some (.slice ak h.keys.length ck) := by rw [cell_of_heap' HP1.out]; rfl
 have z5 : w1.frozen? ⟨w.heap.size, 5, none⟩ = false := frozen_cells HP1.out 5
 go_upto_region 2 with (fail)
 have HP2 : Hid ((w1.setCell ⟨w.heap.size, 5, none⟩ (.slice a1 h.keys.length c1)).heap[w.heap.size]? = some (.cells (xCells h (.slice a1 h.keys.length c1) (.slice a its.len c)) 31 (0, 0))) := set_cells (j := 5) HP1.out _
 have HR2 : Hid ((w1.setCell ⟨w.heap.size, 5, none⟩ (.slice a1 h.keys.length c1)).heap[w.heap.size + 1]? = some (.cells #[.int .u8 0, .bool false, .int .i64 0, .int .u64 0, .string ⟨#[]⟩, .slice none 0 0, .slice none 0 0] 31 (0, 0))) := (Below.heap_setCell _ _ _ _ (by show w.heap.size + 1 ≠ w.heap.size; omega)).trans HR1.out
 have HB2 : Hid (Below w.heap.size w (w1.setCell ⟨w.heap.size, 5, none⟩ (.slice a1 h.keys.length c1))) := (HB0.out.trans (HB1.out.mono (by omega))).setCell (p := ⟨w.heap.size, 5, none⟩) (Nat.le_refl _) _
 have HV2 : Hid (Strs (Nu (w.heap.size + 2) (w1.setCell ⟨w.heap.size, 5, none⟩ (.slice a1 h.keys.length c1))) (w1.setCell ⟨w.heap.size, 5, none⟩ (.slice a1 h.keys.length c1)) (.slice a1 h.keys.length c1) h.keys) :=
  (HV1.out.kept (fun b hb => Below.heap_setCell _ _ _ _ (fun e => by have e2 : b = w.heap.size := e; have := hb.1; omega))).mono (fun b hb => ⟨hb.1, by simp [World.setCell]; exact hb.2.1, fun j => by rw [World.frozen?_setCell]; exact hb.2.2 j⟩)
 have HZ2 : Hid (w.heap.size + 2 ≤ (w1.setCell ⟨w.heap.size, 5, none⟩ (.slice a1 h.keys.length c1)).heap.size) := by unfold Hid; simp [World.setCell]; have := HB1.out.size; omega
 clear y5 z5 HP1 HR1 HB1 HV1
 generalize World.setCell w1 _ _ = W1 at *
 have x6 : W1.cell? ⟨w.heap.size, 6, none⟩ = some (.slice a its.len c) := by rw [cell_of_heap' HP2.out]; rfl
 go_wp2_with fail
 refine (KX.out _ HB2.out).mono ?_
 rintro e w2 ⟨v2, rfl, hb2, a2, c2, rfl, k1, k2, k3⟩
 have hz2 : w.heap.size + 2 ≤ W1.heap.size := HZ2.out
 have HP3 : Hid (w2.heap[w.heap.size]? = some (.cells (xCells h (.slice a1 h.keys.length c1) (.slice a its.len c)) 31 (0, 0))) := (hb2.block _ (by omega)).trans HP2.out
 have HR3 := Lib.hid ((hb2.block _ (by omega)).trans HR2.out)
 have HB3 := Lib.hid hb2
 have HK3 := Lib.hid k3
 clear hb2 k3 x6
 have y6 : w2.cell? ⟨w.heap.size, 6, none⟩ = some (.slice a its.len c) := by rw [cell_of_heap' HP3.out]; rfl
 have z6 : w2.frozen? ⟨w.heap.size, 6, none⟩ = false := frozen_cells HP3.out 6
 go_upto_region 3 with (fail)
 have HP4 : Hid ((w2.setCell ⟨w.heap.size, 6, none⟩ (.slice a2 its.len c2)).heap[w.heap.size]? = some (.cells (xCells h (.slice a1 h.keys.length c1) (.slice a2 its.len c2)) 31 (0, 0))) := set_cells (j := 6) HP3.out _
 have HR4 : Hid ((w2.setCell ⟨w.heap.size, 6, none⟩ (.slice a2 its.len c2)).heap[w.heap.size + 1]? = some (.cells #[.int .u8 0, .bool false, .int .i64 0, .int .u64 0, .string ⟨#[]⟩, .slice none 0 0, .slice none 0 0] 31 (0, 0))) := (Below.heap_setCell _ _ _ _ (by show w.heap.size + 1 ≠ w.heap.size; omega)).trans HR3.out
 have HB4 : Hid (Below w.heap.size w (w2.setCell ⟨w.heap.size, 6, none⟩ (.slice a2 its.len c2))) := (HB2.out.trans (HB3.out.mono HB2.out.size)).setCell (p := ⟨w.heap.size, 6, none⟩) (Nat.le_refl _) _
 have HU4 : Hid (∀ b, UnF w2 b → UnF (w2.setCell ⟨w.heap.size, 6, none⟩ (.slice a2 its.len c2)) b) := fun b hb j => by rw [World.frozen?_setCell]; exact hb j
 have HO4 : Hid (∀ b, b ≠ w.heap.size → (w2.setCell ⟨w.heap.size, 6, none⟩ (.slice a2 its.len c2)).heap[b]? = w2.heap[b]?) := fun b hb => Below.heap_setCell _ _ _ _ hb
 have HZ4 : Hid ((w2.setCell ⟨w.heap.size, 6, none⟩ (.slice a2 its.len c2)).heap.size = w2.heap.size) := by unfold Hid; simp [World.setCell]
 clear y6 z6
 generalize World.setCell w2 _ _ = W2 at *
 have hz3 : W1.heap.size ≤ W2.heap.size := by have := HZ4.out; have := HB3.out.size; omega
 have HV4 : Hid (∀ g, (its.len ≠ 0 → W1.heap.size ≤ g) → (its.len = 0 → W2.heap.size ≤ g) → Strs (Ng (w.heap.size + 2) g W2) W2 (.slice a1 h.keys.length c1) h.keys) := fun g hg hg0 => by
  refine ((HV2.out.kept (fun b hb => HB3.out.block b hb.2.1)).kept (fun b hb => HO4.out b (by have := hb.1; omega))).mono (fun b hb => ⟨hb.1, by have := hb.2.1; omega, HU4.out b ((hb.2.2).same (HB3.out.block b hb.2.1)), fun e => ?_⟩)
  have := hb.2.1
  by_cases h0 : its.len = 0
  · have := hg0 h0; omega
  · have := hg h0; omega
 have HX4 : Hid (CpX (w.heap.size + 2) (fun b => ok b ∧ b < w.heap.size) a2 W2 .nil its) := fun hne => by
  obtain ⟨g, e1, e2, e3, e4, e5⟩ := HK3.out (by rintro rfl; exact hne rfl)
  refine ⟨g, e1, by omega, by have := HZ4.out; omega, HU4.out g e4, trivial, ?_⟩
  have hgp : g ≠ w.heap.size := by omega
  have := RowX.move (ok' := fun b => ok b ∧ b < w.heap.size) (w' := W2) (fun b hb => ⟨hb.1, HO4.out b (by have := hb.1.2; omega)⟩) its g 0 g 0 (fun j _ => by rw [World.cell?_of_block (w := w2) (HO4.out g hgp)]) e5
  simpa [Vl.len] using this
 have HG4 : Hid (∀ g, a2 = some ⟨g, 0, none⟩ → its.len ≠ 0 → W1.heap.size ≤ g) := fun g hg hne => by
  obtain ⟨g', e1, e2, -⟩ := HK3.out (by rintro rfl; exact hne rfl)
  rw [e1] at hg
  injection hg with hg; injection hg with hg
  omega
 have HW4 := Lib.hid (Below.refl W2.heap.size W2)
 obtain ⟨gg, hgg1, hgg2, hgg3⟩ : ∃ gg, (its.len ≠ 0 → W1.heap.size ≤ gg ∧ a2 = some ⟨gg, 0, none⟩) ∧ (its.len = 0 → W2.heap.size ≤ gg) ∧ Strs (Ng (w.heap.size + 2) gg W2) W2 (.slice a1 h.keys.length c1) h.keys := by
  by_cases h0 : its.len = 0
  · exact ⟨W2.heap.size, fun h => absurd h0 h, fun _ => Nat.le_refl _, HV4.out _ (fun h => absurd h0 h) (fun _ => Nat.le_refl _)⟩
  · obtain ⟨g, e1, -⟩ := HX4.out (by simp [Vl.len]; exact h0)
    exact ⟨g, fun _ => ⟨HG4.out g e1 h0, e1⟩, fun h => absurd h h0, HV4.out g (fun _ => HG4.out g e1 h0) (fun h => absurd h h0)⟩
 have HGG := Lib.hid hgg1
 have HKY := Lib.hid hgg3
 clear HV4 hgg1 hgg2 hgg3 HK3 HU4 HO4 HB3 HP3 HR3 HB2 HP2 HR2 HV2 HZ2 HB0 HT0 HR0 HS0 KS KX
 have x6 : W2.cell? ⟨w.heap.size, 6, none⟩ = some (.slice a2 its.len c2) := by rw [cell_of_heap' HP4.out]; rfl
 go_wp2_with fail
 clear x6
 go_loopw [16] (fun i wr => ∃ (k : Nat) (d r : Vl), i = .int .i64 (k : Nat) ∧ k + r.len = its.len ∧ Hid (Vl.app d r = its) ∧ Hid (d.len = k) ∧ Hid (wr.heap[w.heap.size]? = some (.cells (xCells h (.slice a1 h.keys.length c1) (.slice a2 its.len c2)) 31 (0, 0))) ∧
  Hid (wr.heap[w.heap.size + 1]? = some (.cells #[.int .u8 0, .bool false, .int .i64 0, .int .u64 0, .string ⟨#[]⟩, .slice none 0 0, .slice none 0 0] 31 (0, 0))) ∧ Hid (Below w.heap.size w wr) ∧ w.heap.size + 2 ≤ wr.heap.size ∧
  Hid (CpX (w.heap.size + 2) (fun b => ok b ∧ b < w.heap.size) a2 wr d r) ∧ Hid (Strs (Ng (w.heap.size + 2) gg wr) wr (.slice a1 h.keys.length c1) h.keys) ∧ cntX r ≤ cntX its ∧ Hid (smX r)) (fun i _ => its.len - (intOf i).toNat)
 case atStart => exact ⟨0, .nil, its, rfl, by omega, rfl, rfl, HP4, HR4, HB4, by omega, HX4, HKY, Nat.le_refl _, HSI⟩
 case round =>
  obtain ⟨k, d, r, rfl, hk, HD, HDL, HP, HR, HB, hzr, HX, HY, hcn, HSR⟩ := hrel
  cases r with
  | nil =>
    simp only [Vl.len] at hk
    have hge : ¬ (k : Int) < (its.len : Int) := by omega
    have HE : Hid (d = its) := by have := HD.out; rwa [Vl.app_nil] at this
    have p0 : wr.cell? ⟨w.heap.size, 0, none⟩ = some (.int .u8 (h.kind : Nat)) := by rw [cell_of_heap' HP.out]; rfl
    have p1 : wr.cell? ⟨w.heap.size, 1, none⟩ = some (.bool h.b) := by rw [cell_of_heap' HP.out]; rfl
    have p2 : wr.cell? ⟨w.heap.size, 2, none⟩ = some (.int .i64 h.n) := by rw [cell_of_heap' HP.out]; rfl
    have p3 : wr.cell? ⟨w.heap.size, 3, none⟩ = some (.int .u64 (h.bits : Nat)) := by rw [cell_of_heap' HP.out]; rfl
    have p4 : wr.cell? ⟨w.heap.size, 4, none⟩ = some (.string h.text) := by rw [cell_of_heap' HP.out]; rfl
    have p5 : wr.cell? ⟨w.heap.size, 5, none⟩ = some (.slice a1 h.keys.length c1) := by rw [cell_of_heap' HP.out]; rfl
    have p6 : wr.cell? ⟨w.heap.size, 6, none⟩ = some (.slice a2 its.len c2) := by rw [cell_of_heap' HP.out]; rfl
    have r0 : wr.cell? ⟨w.heap.size + 1, 0, none⟩ = some (.int .u8 0) := by rw [cell_of_heap' HR.out]; rfl
    have r1 : wr.cell? ⟨w.heap.size + 1, 1, none⟩ = some (.bool false) := by rw [cell_of_heap' HR.out]; rfl
    have r2 : wr.cell? ⟨w.heap.size + 1, 2, none⟩ = some (.int .i64 0) := by rw [cell_of_heap' HR.out]; rfl
    have r3 : wr.cell? ⟨w.heap.size + 1, 3, none⟩ = some (.int .u64 0) := by rw [cell_of_heap' HR.out]; rfl
    have r4 : wr.cell? ⟨w.heap.size + 1, 4, none⟩ = some (.string ⟨#[]⟩) := by rw [cell_of_heap' HR.out]; rfl
    have r5 : wr.cell? ⟨w.heap.size + 1, 5, none⟩ = some (.slice none 0 0) := by rw [cell_of_heap' HR.out]; rfl
    have r6 : wr.cell? ⟨w.heap.size + 1, 6, none⟩ = some (.slice none 0 0) := by rw [cell_of_heap' HR.out]; rfl
    have rz := frozen_cells HR.out
    have HST := Lib.hid (set7 (w := wr) (g := w.heap.size + 1) (p := 0) (.int .u8 (h.kind : Nat)) (.bool h.b) (.int .i64 h.n) (.int .u64 (h.bits : Nat)) (.string h.text) (.slice a1 h.keys.length c1) (.slice a2 its.len c2) r0 r1 r2 r3 r4 r5 r6)
    simp only [Nat.zero_add] at HST
    go_wp2_with fail
    generalize hWW : World.setCell _ _ _ = W3 at *
    clear hWW
    refine ⟨rfl, _, results_val rfl rfl HST.out.is, ⟨_, rfl, ⟨_, _, rfl, ?_, ?_⟩, HB.out.trans (HST.out.below (by omega))⟩⟩
    · refine (HY.out.kept (fun b hb => HST.out.oth b (by have := hb.1; omega))).mono (fun b hb => ⟨by have := hb.1; omega, by rw [HST.out.size]; exact hb.2.1, HST.out.unf b hb.2.2.1⟩)
    · rw [← HE.out]
      refine ⟨a2, c2, by rw [HE.out], by rw [HE.out]; exact k1, k2, fun hne => ?_⟩
      obtain ⟨g, e1, e2, e3, e4, e5, -⟩ := HX.out (fun e => hne (len_zero' (by simp only [Vl.len] at e; show d.len = 0; omega)))
      have hgr : g ≠ w.heap.size + 1 := by omega
      refine ⟨g, 0, e1, ⟨by omega, by rw [HST.out.size]; exact e3, HST.out.unf g e4⟩, RowX.move (fun b hb => ⟨⟨by have := hb.1; omega, by rw [HST.out.size]; exact hb.2.1, HST.out.unf b hb.2.2.1⟩, HST.out.oth b (by have := hb.1; omega)⟩) _ g 0 g 0 (fun j _ => by rw [World.cell?_of_block (w := wr) (HST.out.oth g hgr)]) e5⟩
  | cons gh kd r =>
    simp only [Vl.len] at hk
    simp only [cntX] at hcn
    have hlt' : (k : Int) < (its.len : Int) := by omega
    have hk0 : (0 : Int) ≤ (k : Int) := by omega
    obtain ⟨g, rfl, e2, e3, e4, e5, e6⟩ := HX.out (by simp [Vl.len])
    rw [HDL.out] at e6
    obtain ⟨hg2, hg3⟩ := HGG.out (by omega)
    obtain rfl : g = gg := by injection hg3 with hg3; injection hg3 with hg3
    obtain ⟨⟨c0, c1', c2', c3, c4, v5, c5, hs5⟩, ⟨ag, cg, c6, q1, q2, q3⟩, hrest⟩ := e6
    obtain ⟨hsg, hsk, hsr⟩ := HSR.out
    have KC : Hid (∀ W, Below wr.heap.size wr W → Calls Tryz.prog 42 #[.agg #[.int .u8 (gh.kind : Nat), .bool gh.b, .int .i64 gh.n, .int .u64 (gh.bits : Nat), .string gh.text, v5, .slice ag kd.len cg]] W (CdP ⟨gh, kd⟩ W)) := fun W hW =>
     IH.out ⟨gh, kd⟩ (by show cntX kd < n; omega) (fun b => ok b ∧ b < w.heap.size) _ W ⟨hsg, hsk, by show cntX kd ≤ _; omega⟩ (ValM.kept ⟨_, _, rfl, hs5, ag, cg, rfl, q1, q2, q3⟩ (fun b hb => hW.block b (by have := hb.2; omega)))
    obtain ⟨av5, cv5, rfl⟩ := hs5.cases
    have HA : Hid (Below wr.heap.size wr (wr.alloc (.cells (xCells gh (.slice av5 gh.keys.length cv5) (.slice ag kd.len cg)) 31))) := (Below.refl _ wr).alloc (Nat.le_refl _) _
    have HT : Hid ((wr.alloc (.cells (xCells gh (.slice av5 gh.keys.length cv5) (.slice ag kd.len cg)) 31)).heap[wr.heap.size]? = some (.cells (xCells gh (.slice av5 gh.keys.length cv5) (.slice ag kd.len cg)) 31 (0, 0))) := heap_alloc_new wr _
    have HS : Hid ((wr.alloc (.cells (xCells gh (.slice av5 gh.keys.length cv5) (.slice ag kd.len cg)) 31)).heap.size = wr.heap.size + 1) := by unfold Hid; simp
    unfold xCells at HA HT HS
    have p6 : wr.cell? ⟨w.heap.size, 6, none⟩ = some (.slice (some ⟨g, 0, none⟩) its.len c2) := by rw [cell_of_heap' HP.out]; rfl
    have HGC : Hid (∀ j, j < (Vl.cons gh kd r).len * 7 + k * 7 → ∀ W, Below wr.heap.size wr W → W.cell? ⟨g, j, none⟩ = wr.cell? ⟨g, j, none⟩) := fun j _ W hW => hW.cell (p := ⟨g, j, none⟩) e3
    have HGF : Hid (∀ W, Below wr.heap.size wr W → UnF W g) := fun W hW => e4.same (hW.block g e3)
    have HRE := Lib.hid hrest
    have HE5 := Lib.hid e5
    have HKI := Lib.hid hk
    have hki : k + 1 + r.len ≤ its.len := by omega
    have HSR2 := Lib.hid hsr
    have hpg : w.heap.size < wr.heap.size := by omega
    clear hrest e5 q3 hs5 hsg hsk hsr hk
    have HC0 : Hid (∀ W, Below wr.heap.size wr W → W.cell? ⟨g, k * 7, none⟩ = some (.int .u8 (gh.kind : Nat)) ∧ W.cell? ⟨g, k * 7 + 1, none⟩ = some (.bool gh.b) ∧ W.cell? ⟨g, k * 7 + 2, none⟩ = some (.int .i64 gh.n) ∧ W.cell? ⟨g, k * 7 + 3, none⟩ = some (.int .u64 (gh.bits : Nat)) ∧ W.cell? ⟨g, k * 7 + 4, none⟩ = some (.string gh.text) ∧
     W.cell? ⟨g, k * 7 + 5, none⟩ = some (.slice av5 gh.keys.length cv5) ∧ W.cell? ⟨g, k * 7 + 6, none⟩ = some (.slice ag kd.len cg)) := fun W hW =>
     ⟨(hW.cell (p := ⟨g, _, none⟩) e3).trans c0, (hW.cell (p := ⟨g, _, none⟩) e3).trans c1', (hW.cell (p := ⟨g, _, none⟩) e3).trans c2', (hW.cell (p := ⟨g, _, none⟩) e3).trans c3, (hW.cell (p := ⟨g, _, none⟩) e3).trans c4, (hW.cell (p := ⟨g, _, none⟩) e3).trans c5, (hW.cell (p := ⟨g, _, none⟩) e3).trans c6⟩
    go_upto_region 6 with (fail)
    generalize hWW : World.alloc wr _ = W3 at *
    clear hWW c0 c1' c2' c3 c4 c5 c6 p6
    have HCL : Hid (∀ W : World, W.heap[w.heap.size]? = W3.heap[w.heap.size]? → W.heap[wr.heap.size]? = W3.heap[wr.heap.size]? → W.cell? ⟨w.heap.size, 6, none⟩ = some (.slice (some ⟨g, 0, none⟩) its.len c2) ∧
     W.cell? ⟨wr.heap.size, 0, none⟩ = some (.int .u8 (gh.kind : Nat)) ∧ W.cell? ⟨wr.heap.size, 1, none⟩ = some (.bool gh.b) ∧ W.cell? ⟨wr.heap.size, 2, none⟩ = some (.int .i64 gh.n) ∧ W.cell? ⟨wr.heap.size, 3, none⟩ = some (.int .u64 (gh.bits : Nat)) ∧ W.cell? ⟨wr.heap.size, 4, none⟩ = some (.string gh.text) ∧
     W.cell? ⟨wr.heap.size, 5, none⟩ = some (.slice av5 gh.keys.length cv5) ∧ W.cell? ⟨wr.heap.size, 6, none⟩ = some (.slice ag kd.len cg)) := fun W h1 h2 => by
     have hP := h1.trans ((HA.out.block _ hpg).trans HP.out)
     obtain ⟨u0, u1, u2, u3, u4, u5, u6⟩ := xcCs (h := gh) (h2.trans HT.out)
     exact ⟨by rw [cell_of_heap' hP]; rfl, u0, u1, u2, u3, u4, u5, u6⟩
    have KCW : Hid (∀ W, Hid (Below (wr.heap.size + 1) W3 W) → Calls Tryz.prog 42 #[.agg #[.int .u8 (gh.kind : Nat), .bool gh.b, .int .i64 gh.n, .int .u64 (gh.bits : Nat), .string gh.text, .slice av5 gh.keys.length cv5, .slice ag kd.len cg]] W fun e w' =>
     ∃ n5 m5 n6 m6, e = .returned (.agg #[.int .u8 (gh.kind : Nat), .bool gh.b, .int .i64 gh.n, .int .u64 (gh.bits : Nat), .string gh.text, .slice n5 gh.keys.length m5, .slice n6 kd.len m6]) ∧ Hid (Strs (Nu (wr.heap.size + 1) w') w' (.slice n5 gh.keys.length m5) gh.keys ∧ Vals (Nu (wr.heap.size + 1) w') w' (.slice n6 kd.len m6) kd) ∧ Hid (Below (wr.heap.size + 1) W3 w')) := fun W hW => by
     have hWz : wr.heap.size + 1 ≤ W.heap.size := by have := hW.out.size; rw [HS.out] at this; exact this
     refine (KC.out W (HA.out.trans (hW.out.mono (by omega)))).mono ?_
     rintro e w' ⟨v', rfl, ⟨uk, ui, rfl, hu, hui⟩, hb⟩
     have hn : ∀ b, Nu W.heap.size w' b → Nu (wr.heap.size + 1) w' b := fun b hb => ⟨by have := hb.1; omega, hb.2⟩
     obtain ⟨n5, m5, rfl⟩ := hu.cases
     obtain ⟨n6, m6, rfl, -⟩ := id hui
     exact ⟨n5, m5, n6, m6, rfl, ⟨hu.mono hn, hui.mono hn⟩, hW.out.trans (hb.mono hWz)⟩
    have HDR : Hid (Below (wr.heap.size + 1) W3 W3.drew) := ⟨rfl, rfl, rfl, Nat.le_refl _, fun _ _ => rfl⟩
    have HS3 := Lib.hid (HCL.out W3.drew rfl rfl)
    have HSW : Hid (∀ W, Below (wr.heap.size + 1) W3 W → ∀ a0 a1 a2 a3 a4 a5 a6, Stored W (((((((W.setCell ⟨g, k * 7, none⟩ a0).setCell ⟨g, k * 7 + 1, none⟩ a1).setCell ⟨g, k * 7 + 2, none⟩ a2).setCell ⟨g, k * 7 + 3, none⟩ a3).setCell ⟨g, k * 7 + 4, none⟩ a4).setCell ⟨g, k * 7 + 5, none⟩ a5).setCell ⟨g, k * 7 + 6, none⟩ a6) g (k * 7) 7 [a0, a1, a2, a3, a4, a5, a6]) := fun W hW a0 a1 a2 a3 a4 a5 a6 => by
     obtain ⟨t0, t1, t2, t3, t4, t5, t6⟩ := HC0.out W (HA.out.trans (hW.mono (by omega)))
     exact set7 a0 a1 a2 a3 a4 a5 a6 t0 t1 t2 t3 t4 t5 t6
    go_region_held3 (fun W => W.cell? ⟨w.heap.size, 6, none⟩ = some (.slice (some ⟨g, 0, none⟩) its.len c2) ∧
     W.cell? ⟨wr.heap.size, 0, none⟩ = some (.int .u8 (gh.kind : Nat)) ∧ W.cell? ⟨wr.heap.size, 1, none⟩ = some (.bool gh.b) ∧ W.cell? ⟨wr.heap.size, 2, none⟩ = some (.int .i64 gh.n) ∧ W.cell? ⟨wr.heap.size, 3, none⟩ = some (.int .u64 (gh.bits : Nat)) ∧ W.cell? ⟨wr.heap.size, 4, none⟩ = some (.string gh.text) ∧
     W.cell? ⟨wr.heap.size, 5, none⟩ = some (.slice av5 gh.keys.length cv5) ∧ W.cell? ⟨wr.heap.size, 6, none⟩ = some (.slice ag kd.len cg)) (first | with_reducible exact HS3.out | with_reducible exact HS4.out | with_reducible exact HS5.out)
     (first | (go_at_call 42; refine (KCW.out _ HDR).mono ?_; rintro e w4 ⟨n5, m5, n6, m6, rfl, hv4, hb4⟩; have HS4 := Lib.hid (HCL.out w4 (hb4.out.block _ (by omega)) (hb4.out.block _ (Nat.lt_succ_self _))); obtain ⟨t0, t1, t2, t3, t4, t5, t6⟩ := HC0.out w4 (HA.out.trans (hb4.out.mono (by omega))); have tz : ∀ j, w4.frozen? ⟨g, j, none⟩ = false := HGF.out w4 (HA.out.trans (hb4.out.mono (by omega))); have HST := Lib.hid (HSW.out w4 hb4.out (.int .u8 (gh.kind : Nat)) (.bool gh.b) (.int .i64 gh.n) (.int .u64 (gh.bits : Nat)) (.string gh.text) (.slice n5 gh.keys.length m5) (.slice n6 kd.len m6)); have HS5 := Lib.hid (HCL.out _ ((HST.out.oth _ (by omega)).trans (hb4.out.block _ (by omega))) ((HST.out.oth _ (by omega)).trans (hb4.out.block _ (Nat.lt_succ_self _))))))
    have HV4 := hv4
    have HB4 := hb4
    clear hv4 hb4 HS4 HS5 t0 t1 t2 t3 t4 t5 t6 tz
    generalize hWW : World.setCell _ _ _ = W5 at *
    clear hWW
    have hz4 : wr.heap.size + 1 ≤ w4.heap.size := by have := HB4.out.size; rw [HS.out] at this; exact this
    have HBr4 : Hid (Below wr.heap.size wr w4) := HA.out.trans (HB4.out.mono (by omega))
    have HB5 : Hid (Below w.heap.size w W5) := (HB.out.trans (HBr4.out.mono (by omega))).trans (HST.out.below (by omega))
    have HO5 : Hid (∀ b, b < wr.heap.size → b ≠ g → W5.heap[b]? = wr.heap[b]?) := fun b hb hg => (HST.out.oth b hg).trans (HBr4.out.block b hb)
    have HG5 : Hid (∀ b, Ng (w.heap.size + 2) g wr b → Ng (w.heap.size + 2) g W5 b) := fun b hb => ⟨hb.1, by rw [HST.out.size]; have := hb.2.1; omega, HST.out.unf b (hb.2.2.1.same (HBr4.out.block b hb.2.1)), hb.2.2.2⟩
    have HN5 : Hid (∀ b, Nu (wr.heap.size + 1) w4 b → Ng (w.heap.size + 2) g W5 b) := fun b hb => ⟨by have := hb.1; omega, by rw [HST.out.size]; exact hb.2.1, HST.out.unf b hb.2.2, by have := hb.1; omega⟩
    have HX5 : Hid (CpX (w.heap.size + 2) (fun b => ok b ∧ b < w.heap.size) (some ⟨g, 0, none⟩) W5 (Vl.app d (.cons gh kd .nil)) r) := fun _ => by
     have hdl : (Vl.app d (.cons gh kd .nil)).len = k + 1 := by rw [Vl.len_app, HDL.out]; rfl
     refine ⟨g, rfl, e2, by rw [HST.out.size]; omega, HST.out.unf g (HGF.out w4 HBr4.out), RowX.app _ _ _ _ ?_ ?_, ?_⟩
     · refine RowX.move (fun b hb => ⟨HG5.out b hb, HO5.out b hb.2.1 hb.2.2.2⟩) _ g 0 g 0 (fun j hj => ?_) HE5.out
       rw [HDL.out] at hj
       rw [HST.out.far _ (.inl (by omega)), HBr4.out.cell (p := ⟨g, _, none⟩) e3]
     · rw [HDL.out, Nat.zero_add]
       obtain ⟨hs4, an6, cn6, hvi, i1, i2, i3⟩ := HV4.out
       injection hvi with hv1 hv2 hv3
       subst hv1 hv3
       have hka : Kept (Nu (wr.heap.size + 1) w4) w4 W5 := fun b hb => HST.out.oth b (by have := hb.1; omega)
       refine ⟨⟨HST.out.is 0 _ rfl, HST.out.is 1 _ rfl, HST.out.is 2 _ rfl, HST.out.is 3 _ rfl, HST.out.is 4 _ rfl, _, HST.out.is 5 _ rfl, (hs4.kept hka).mono HN5.out⟩, ⟨_, _, HST.out.is 6 _ rfl, i1, i2, fun hn => ?_⟩, trivial⟩
       obtain ⟨b', o', j1, j2, j3⟩ := i3 hn
       exact ⟨b', o', j1, HN5.out b' j2, (RowX.kept hka _ _ _ j2 j3).mono HN5.out⟩
     · rw [hdl, show (k + 1) * 7 = k * 7 + 7 by omega]
       refine RowX.move (fun b hb => ⟨hb, HO5.out b (by have := hb.2; omega) (by have := hb.2; omega)⟩) _ g _ g _ (fun j hj => ?_) HRE.out
       rw [HST.out.far _ (.inr (by omega)), HBr4.out.cell (p := ⟨g, _, none⟩) e3]
    have HY5 : Hid (Strs (Ng (w.heap.size + 2) g W5) W5 (.slice a1 h.keys.length c1) h.keys) := (HY.out.kept (fun b hb => HO5.out b hb.2.1 hb.2.2.2)).mono HG5.out
    have HP5 : Hid (W5.heap[w.heap.size]? = some (.cells (xCells h (.slice a1 h.keys.length c1) (.slice (some ⟨g, 0, none⟩) its.len c2)) 31 (0, 0))) := (HO5.out _ hpg (by omega)).trans HP.out
    have HR5 : Hid (W5.heap[w.heap.size + 1]? = some (.cells #[.int .u8 0, .bool false, .int .i64 0, .int .u64 0, .string ⟨#[]⟩, .slice none 0 0, .slice none 0 0] 31 (0, 0))) := (HO5.out _ (by omega) (by omega)).trans HR.out
    have HZ5 : Hid (w.heap.size + 2 ≤ W5.heap.size) := by unfold Hid; rw [HST.out.size]; omega
    go_wp2_with fail
    go_roundw
    case rel => exact ⟨k + 1, _, r, by go_num, by have := HKI.out; omega, by unfold Hid; rw [Vl.app_one]; exact HD.out, by unfold Hid; rw [Vl.len_app, HDL.out]; rfl, HP5, HR5, HB5, HZ5.out, HX5, HY5, by omega, HSR2⟩
    case measure => simp [intOf]; have := HKI.out; omega
theorem cd_all (n : Nat) : CdSaid n := by
 induction n with
 | zero => intro x h; exact absurd h (Nat.not_lt_zero _)
 | succ n ih => exact cd_step n ih
theorem copied_calls (x : Va) (ok : Nat → Prop) (v : Value) (w : World) (hs : Va.sm x) (hx : ValM ok w v x) : Calls Tryz.prog 42 #[v] w (CdP x w) :=
 cd_all (cntX x.items + 1) x (Nat.lt_succ_self _) ok v w hs hx
theorem idx_from (x : ByteArray) : ∀ (l : List ByteArray) (i : Nat), Lib.idxFromS l x i = if idxF x l < l.length then ((i + idxF x l : Nat) : Int) else -1
 | [], i => rfl
 | k :: r, i => by
   unfold Lib.idxFromS idxF
   by_cases h : k = x
   · simp [h]
   · rw [if_neg h, if_neg h, idx_from x r (i + 1)]
     simp only [List.length_cons, Nat.add_lt_add_iff_right]
     split
     · congr 1; omega
     · rfl
theorem idx_of (x : ByteArray) (l : List ByteArray) : Lib.idxOfS (l.take l.length) x = if idxF x l < l.length then ((idxF x l : Nat) : Int) else -1 := by
 rw [List.take_length, Lib.idxOfS, idx_from, Nat.zero_add]
theorem smX_get {t : Vl} : ∀ {i : Nat} {x : Va}, smX t → t.get i = some x → x.h.sm ∧ smX x.items := by
 induction t with
 | nil => intro i x _ h; cases h
 | cons h k r _ ih =>
   intro i x hw hx
   cases i with
   | zero => cases hx; exact ⟨hw.1, hw.2.1⟩
   | succ i => exact ih hw.2.2 hx
theorem cntX_get {t : Vl} : ∀ {i : Nat} {x : Va}, t.get i = some x → cntX x.items ≤ cntX t := by
 induction t with
 | nil => intro i x h; cases h
 | cons h k r _ ih =>
   intro i x hx
   cases i with
   | zero => cases hx; simp only [cntX]; omega
   | succ i => have := ih (i := i) hx; simp only [cntX]; omega
theorem Va.sm_get {v x : Va} {i : Nat} (h : Va.sm v) (hx : v.items.get i = some x) : Va.sm x :=
 ⟨(smX_get h.2.1 hx).1, (smX_get h.2.1 hx).2, Nat.le_trans (cntX_get hx) h.2.2⟩
def GetR (r : Except Nat Va) (w : World) (e : Ending) (w' : World) : Prop := Below w.heap.size w w' ∧ match r with
 | .ok x => ∃ v', e = .returned (.tuple #[v', .int .i64 0]) ∧ ValM (Nu w.heap.size w') w' v' x ∧ Va.sm x
 | .error n => e = .returned (.tuple #[.agg #[.int .u8 0, .bool false, .int .i64 0, .int .u64 0, .string ⟨#[]⟩, .slice none 0 0, .slice none 0 0], .int .i64 (n : Nat)])
theorem results_get {fn : Func} {k t : Tmp} {b : Nat} {x0 x1 x2 x3 x4 x5 x6 z : Value} {tmps : Array Value} {w : World} (h : fn.results = #[.cell k 31, .tmp t]) (hk : tmps.getD k undef = .pointer (some ⟨b, 0, none⟩)) (ht : tmps.getD t undef = z)
 (c : ∀ j u, [x0, x1, x2, x3, x4, x5, x6][j]? = some u → w.cell? ⟨b, 0 + j, none⟩ = some u) :
 (results fn tmps).run Tryz.prog w = .ok (.tuple #[.agg #[x0, x1, x2, x3, x4, x5, x6], z]) w := by
 have c0 : w.cell? ⟨b, 0, none⟩ = some x0 := c 0 _ rfl
 have c1 : w.cell? ⟨b, 1, none⟩ = some x1 := c 1 _ rfl
 have c2 : w.cell? ⟨b, 2, none⟩ = some x2 := c 2 _ rfl
 have c3 : w.cell? ⟨b, 3, none⟩ = some x3 := c 3 _ rfl
 have c4 : w.cell? ⟨b, 4, none⟩ = some x4 := c 4 _ rfl
 have c5 : w.cell? ⟨b, 5, none⟩ = some x5 := c 5 _ rfl
 have c6 : w.cell? ⟨b, 6, none⟩ = some x6 := c 6 _ rfl
 have hk' : tmps[k]?.getD undef = .pointer (some ⟨b, 0, none⟩) := by rw [← hk]; simp
 have ht' : tmps[t]?.getD undef = z := by rw [← ht]; simp
 clear c hk ht
 simp [results, h, hk', ht', go_sem, c0, c1, c2, c3, c4, c5, c6]
def zeroCells : Array Value := #[.int .u8 0, .bool false, .int .i64 0, .int .u64 0, .string ⟨#[]⟩, .slice none 0 0, .slice none 0 0]
theorem set7_blk {w : World} {P : Nat} {T : TypeId} {y0 y1 y2 y3 y4 y5 y6 : Value} (h : w.heap[P]? = some (.cells #[y0, y1, y2, y3, y4, y5, y6] T (0, 0))) (x0 x1 x2 x3 x4 x5 x6 : Value) :
 (((((((w.setCell ⟨P, 0, none⟩ x0).setCell ⟨P, 1, none⟩ x1).setCell ⟨P, 2, none⟩ x2).setCell ⟨P, 3, none⟩ x3).setCell ⟨P, 4, none⟩ x4).setCell ⟨P, 5, none⟩ x5).setCell ⟨P, 6, none⟩ x6).heap[P]? = some (.cells #[x0, x1, x2, x3, x4, x5, x6] T (0, 0)) := by
 have h0 : (w.setCell ⟨P, 0, none⟩ x0).heap[P]? = some (.cells #[x0, y1, y2, y3, y4, y5, y6] T (0, 0)) := set_cells (j := 0) h x0
 have h1 : ((w.setCell ⟨P, 0, none⟩ x0).setCell ⟨P, 1, none⟩ x1).heap[P]? = some (.cells #[x0, x1, y2, y3, y4, y5, y6] T (0, 0)) := set_cells (j := 1) h0 x1
 have h2 : (((w.setCell ⟨P, 0, none⟩ x0).setCell ⟨P, 1, none⟩ x1).setCell ⟨P, 2, none⟩ x2).heap[P]? = some (.cells #[x0, x1, x2, y3, y4, y5, y6] T (0, 0)) := set_cells (j := 2) h1 x2
 have h3 : ((((w.setCell ⟨P, 0, none⟩ x0).setCell ⟨P, 1, none⟩ x1).setCell ⟨P, 2, none⟩ x2).setCell ⟨P, 3, none⟩ x3).heap[P]? = some (.cells #[x0, x1, x2, x3, y4, y5, y6] T (0, 0)) := set_cells (j := 3) h2 x3
 have h4 : (((((w.setCell ⟨P, 0, none⟩ x0).setCell ⟨P, 1, none⟩ x1).setCell ⟨P, 2, none⟩ x2).setCell ⟨P, 3, none⟩ x3).setCell ⟨P, 4, none⟩ x4).heap[P]? = some (.cells #[x0, x1, x2, x3, x4, y5, y6] T (0, 0)) := set_cells (j := 4) h3 x4
 have h5 : ((((((w.setCell ⟨P, 0, none⟩ x0).setCell ⟨P, 1, none⟩ x1).setCell ⟨P, 2, none⟩ x2).setCell ⟨P, 3, none⟩ x3).setCell ⟨P, 4, none⟩ x4).setCell ⟨P, 5, none⟩ x5).heap[P]? = some (.cells #[x0, x1, x2, x3, x4, x5, y6] T (0, 0)) := set_cells (j := 5) h4 x5
 exact set_cells (j := 6) h5 x6
theorem drop_name {l : List ByteArray} {k : Nat} {s : ByteArray} (h : l[k]? = some s) : l.drop k = s :: l.drop (k + 1) := by
 have hlt := (List.getElem?_eq_some_iff.1 h).1
 rw [List.drop_eq_getElem_cons hlt, (List.getElem?_eq_some_iff.1 h).2]
structure GtIn (B : Nat) (w0 w : World) (ok : Nat → Prop) (x : Va) (vk vi : Value) : Prop where
 res : w.heap[B + 3]? = some (.cells zeroCells 31 (0, 0))
 at_ : w.heap[B + 4]? = some (.cells (xCells x.h vk vi) 31 (0, 0))
 keys : Strs (fun b => ok b ∧ b < B) w vk x.h.keys
 items : Vals (fun b => ok b ∧ b < B) w vi x.items
 bel : Below B w0 w
 size : B + 5 ≤ w.heap.size
 sm : Va.sm x
set_option maxRecDepth 100000 in
set_option maxHeartbeats 40000000 in
theorem get_calls (dot root : Va) (rt : Bool) (names : List ByteArray) (hsd : Va.sm dot) (hsr : Va.sm root) (hln : names.length ≤ 140737488351232) (ok : Nat → Prop) (vd vr vn : Value) (w : World) (hd : ValM ok w vd dot) (hr : ValM ok w vr root) (hn : Strs ok w vn names) :
 Calls Tryz.prog 25 #[vd, vr, .agg #[.bool rt, vn]] w (GetR (getF names (if rt then root else dot)) w) := by
 obtain ⟨vdk, vdi, rfl, hdk, hdi⟩ := hd
 obtain ⟨vrk, vri, rfl, hrk, hri⟩ := hr
 have HDK := Lib.hid hdk.lt
 have HDI := Lib.hid (Vals.lt hdi)
 have HRK := Lib.hid hrk.lt
 have HRI := Lib.hid (Vals.lt hri)
 have HNN := Lib.hid hn.lt
 obtain ⟨a1, c1, rfl⟩ := hdk.cases
 obtain ⟨a2, c2, rfl, -⟩ := hdi
 obtain ⟨a3, c3, rfl⟩ := hrk.cases
 obtain ⟨a4, c4, rfl, -⟩ := hri
 obtain ⟨an, cn, rfl⟩ := hn.cases
 have HSD := Lib.hid hsd
 have HSR := Lib.hid hsr
 clear hdk hrk hn hsd hsr
 have HB0 : Hid (Below w.heap.size w ((((w.alloc (.cells (xCells dot.h (.slice a1 dot.h.keys.length c1) (.slice a2 dot.items.len c2)) 31)).alloc (.cells (xCells root.h (.slice a3 root.h.keys.length c3) (.slice a4 root.items.len c4)) 31)).alloc (.cells #[.bool rt, .slice an names.length cn] 54)).alloc (.cells zeroCells 31))) :=
  ((((Below.refl _ w).alloc (Nat.le_refl _) _).alloc (by simp) _).alloc (by simp; omega) _).alloc (by simp; omega) _
 have HS0 : Hid (((((w.alloc (.cells (xCells dot.h (.slice a1 dot.h.keys.length c1) (.slice a2 dot.items.len c2)) 31)).alloc (.cells (xCells root.h (.slice a3 root.h.keys.length c3) (.slice a4 root.items.len c4)) 31)).alloc (.cells #[.bool rt, .slice an names.length cn] 54)).alloc (.cells zeroCells 31)).heap.size = w.heap.size + 4) := by unfold Hid; simp
 have HT : Hid (∀ W0, ((((w.alloc (.cells (xCells dot.h (.slice a1 dot.h.keys.length c1) (.slice a2 dot.items.len c2)) 31)).alloc (.cells (xCells root.h (.slice a3 root.h.keys.length c3) (.slice a4 root.items.len c4)) 31)).alloc (.cells #[.bool rt, .slice an names.length cn] 54)).alloc (.cells zeroCells 31)) = W0 →
  W0.heap[w.heap.size]? = some (.cells (xCells dot.h (.slice a1 dot.h.keys.length c1) (.slice a2 dot.items.len c2)) 31 (0, 0)) ∧ W0.heap[w.heap.size + 1]? = some (.cells (xCells root.h (.slice a3 root.h.keys.length c3) (.slice a4 root.items.len c4)) 31 (0, 0)) ∧
  W0.heap[w.heap.size + 2]? = some (.cells #[.bool rt, .slice an names.length cn] 54 (0, 0)) ∧ W0.heap[w.heap.size + 3]? = some (.cells zeroCells 31 (0, 0))) := by
  rintro W0 rfl
  generalize hx : Obj.cells (xCells dot.h (.slice a1 dot.h.keys.length c1) (.slice a2 dot.items.len c2)) 31 (0, 0) = X
  generalize hy : Obj.cells (xCells root.h (.slice a3 root.h.keys.length c3) (.slice a4 root.items.len c4)) 31 (0, 0) = Y
  generalize hz : Obj.cells #[.bool rt, .slice an names.length cn] 54 (0, 0) = Z
  generalize hu : Obj.cells zeroCells 31 (0, 0) = U
  have s1 : (w.alloc X).heap.size = w.heap.size + 1 := by simp
  have s2 : ((w.alloc X).alloc Y).heap.size = w.heap.size + 2 := by simp
  have s3 : (((w.alloc X).alloc Y).alloc Z).heap.size = w.heap.size + 3 := by simp
  refine ⟨?_, ?_, ?_, ?_⟩
  · rw [Below.heap_alloc _ _ _ (by omega), Below.heap_alloc _ _ _ (by omega), Below.heap_alloc _ _ _ (by omega)]
    exact heap_alloc_new w X
  · rw [Below.heap_alloc _ _ _ (by omega), Below.heap_alloc _ _ _ (by omega)]
    have := heap_alloc_new (w.alloc X) Y; rwa [s1] at this
  · rw [Below.heap_alloc _ _ _ (by omega)]
    have := heap_alloc_new ((w.alloc X).alloc Y) Z; rwa [s2] at this
  · have := heap_alloc_new (((w.alloc X).alloc Y).alloc Z) U; rwa [s3] at this
 unfold zeroCells xCells at HB0 HS0 HT
 go_enter Tryz.func25, Tryz.ntmps25
 go_upto_region 1 with (fail)
 simp only [Nat.add_assoc, Nat.reduceAdd]
 generalize hWW : World.alloc (World.alloc (World.alloc (World.alloc w _) _) _) _ = W0 at *
 obtain ⟨h0, h1, h2, h3⟩ := HT.out W0 rfl
 clear hWW HT
 have HH0 := Lib.hid h0
 have HH1 := Lib.hid h1
 have HH2 := Lib.hid h2
 have HH3 := Lib.hid h3
 obtain ⟨d0, d1, d2, d3, d4, d5, d6⟩ := xcCs (h := dot.h) h0
 obtain ⟨r0, r1, r2, r3, r4, r5, r6⟩ := xcCs (h := root.h) h1
 have q0 : W0.cell? ⟨w.heap.size + 2, 0, none⟩ = some (.bool rt) := by rw [cell_of_heap' h2]; rfl
 have q1 : W0.cell? ⟨w.heap.size + 2, 1, none⟩ = some (.slice an names.length cn) := by rw [cell_of_heap' h2]; rfl
 have hz0 : W0.heap.size = w.heap.size + 4 := HS0.out
 clear h0 h1 h2 h3
 go_upto_region 2 with (fail)
 have IX : Hid (∀ W (l : List ByteArray) (v : Value) (n : ByteArray) (ok : Nat → Prop), l.length ≤ 16777216 → Strs ok W v l → Calls Tryz.prog 41 #[v, .string n] W fun e w' => e = .returned (.int .i64 (if idxF n l < l.length then ((idxF n l : Nat) : Int) else -1)) ∧ w' = W) := by
  rintro W l v n ok hl ⟨a, c, rfl, -, -, h3⟩
  by_cases h0 : l = []
  · subst h0
    exact Tryz.slices_Index_string_empty a c n W
  · obtain ⟨b, o, rfl, -, hc⟩ := h3 h0
    have := Tryz.slices_Index_string b o l.length c l n W (Nat.le_refl _) (by omega) (fun j hj => by rw [hc j _ (List.getElem?_eq_getElem hj)]; simp [List.getD, hj])
    rw [idx_of] at this
    exact this
 obtain ⟨x0, hx0⟩ : ∃ x0, (if rt = true then root else dot) = x0 := ⟨_, rfl⟩
 have HG0 : Hid (∀ X : Va, ∀ b1 e1 b2 e2, Strs (fun b => ok b ∧ b < w.heap.size) w (.slice b1 X.h.keys.length e1) X.h.keys → Vals (fun b => ok b ∧ b < w.heap.size) w (.slice b2 X.items.len e2) X.items → Va.sm X →
  GtIn w.heap.size w (W0.alloc (.cells (xCells X.h (.slice b1 X.h.keys.length e1) (.slice b2 X.items.len e2)) 31)) ok X (.slice b1 X.h.keys.length e1) (.slice b2 X.items.len e2)) := by
  intro X b1 e1 b2 e2 h1 h2 h3
  have hb : Below w.heap.size w (W0.alloc (.cells (xCells X.h (.slice b1 X.h.keys.length e1) (.slice b2 X.items.len e2)) 31)) := HB0.out.alloc (by omega) _
  exact { res := (Below.heap_alloc _ _ _ (by omega)).trans HH3.out
          at_ := by have := heap_alloc_new W0 (.cells (xCells X.h (.slice b1 X.h.keys.length e1) (.slice b2 X.items.len e2)) 31); rwa [hz0] at this
          keys := h1.kept (fun b hb2 => hb.block b hb2.2)
          items := h2.kept (fun b hb2 => hb.block b hb2.2)
          bel := hb
          size := by simp [hz0]
          sm := h3 }
 unfold xCells at HG0
 cases rt with
 | true =>
   go_upto_region 4 with (fail)
   have HG := Lib.hid (HG0.out root _ _ _ _ HRK.out HRI.out HSR.out)
   clear hx0
   clear HG0 HDK HDI HRK HRI HSD HSR d0 d1 d2 d3 d4 d5 d6 r0 r1 r2 r3 r4 r5 r6 q0 HH0 HH1 HH3
   have q1 : (W0.alloc (.cells #[.int .u8 (root.h.kind : Nat), .bool root.h.b, .int .i64 root.h.n, .int .u64 (root.h.bits : Nat), .string root.h.text, .slice a3 root.h.keys.length c3, .slice a4 root.items.len c4] 31)).cell? ⟨w.heap.size + 2, 1, none⟩ = some (.slice an names.length cn) := by
    rw [cell_of_heap' ((Below.heap_alloc _ _ _ (by omega)).trans HH2.out)]; rfl
   generalize hWW : World.alloc W0 _ = W1 at *
   clear hWW HB0 HS0 hz0 HH2
   go_wp2_with fail
   clear q1
   go_loopw [19] (fun i wr => ∃ (k : Nat) (x : Va) (b1 : Option Addr) (e1 : Nat) (b2 : Option Addr) (e2 : Nat), i = .int .i64 (k : Nat) ∧ k ≤ names.length ∧ Hid (getF (names.drop k) x = getF names root) ∧ Hid (GtIn w.heap.size w wr ok x (.slice b1 x.h.keys.length e1) (.slice b2 x.items.len e2))) (fun i _ => names.length - (intOf i).toNat)
   case atStart => exact ⟨0, root, a3, c3, a4, c4, rfl, Nat.zero_le _, by rw [List.drop_zero]; rfl, HG⟩
   case round =>
    obtain ⟨k, x, b1, e1, b2, e2, rfl, hk, HE, HI⟩ := hrel
    clear HG
    obtain ⟨i1, i2, i3, i4, i5, i6, i7⟩ := HI.out
    have hk0 : (0 : Int) ≤ (k : Int) := by omega
    obtain ⟨p0, p1, p2, p3, p4, p5, p6⟩ := xcCs i2
    have HRZ := Lib.hid i1
    have HPX := Lib.hid i2
    have HK := Lib.hid i3
    have HIT := Lib.hid i4
    have HB := Lib.hid i5
    have HSM := Lib.hid i7
    clear i1 i2 i3 i4 i5 i7 HI
    have z0 : wr.cell? ⟨w.heap.size + 3, 0, none⟩ = some (.int .u8 0) := by rw [cell_of_heap' HRZ.out]; rfl
    have z1 : wr.cell? ⟨w.heap.size + 3, 1, none⟩ = some (.bool false) := by rw [cell_of_heap' HRZ.out]; rfl
    have z2 : wr.cell? ⟨w.heap.size + 3, 2, none⟩ = some (.int .i64 0) := by rw [cell_of_heap' HRZ.out]; rfl
    have z3 : wr.cell? ⟨w.heap.size + 3, 3, none⟩ = some (.int .u64 0) := by rw [cell_of_heap' HRZ.out]; rfl
    have z4 : wr.cell? ⟨w.heap.size + 3, 4, none⟩ = some (.string ⟨#[]⟩) := by rw [cell_of_heap' HRZ.out]; rfl
    have z5 : wr.cell? ⟨w.heap.size + 3, 5, none⟩ = some (.slice none 0 0) := by rw [cell_of_heap' HRZ.out]; rfl
    have z6 : wr.cell? ⟨w.heap.size + 3, 6, none⟩ = some (.slice none 0 0) := by rw [cell_of_heap' HRZ.out]; rfl
    have zf := frozen_cells HRZ.out
    have HZS : Hid (∀ W, W.heap[w.heap.size + 3]? = wr.heap[w.heap.size + 3]? → ∀ a0 a1 a2 a3 a4 a5 a6, Stored W (((((((W.setCell ⟨w.heap.size + 3, 0, none⟩ a0).setCell ⟨w.heap.size + 3, 1, none⟩ a1).setCell ⟨w.heap.size + 3, 2, none⟩ a2).setCell ⟨w.heap.size + 3, 3, none⟩ a3).setCell ⟨w.heap.size + 3, 4, none⟩ a4).setCell ⟨w.heap.size + 3, 5, none⟩ a5).setCell ⟨w.heap.size + 3, 6, none⟩ a6) (w.heap.size + 3) 0 7 [a0, a1, a2, a3, a4, a5, a6]) := fun W hW a0 a1 a2 a3 a4 a5 a6 => by
     have hb : ∀ j, W.cell? ⟨w.heap.size + 3, j, none⟩ = wr.cell? ⟨w.heap.size + 3, j, none⟩ := fun j => World.cell?_of_block (w := wr) hW
     exact set7 (p := 0) a0 a1 a2 a3 a4 a5 a6 ((hb 0).trans z0) ((hb 1).trans z1) ((hb 2).trans z2) ((hb 3).trans z3) ((hb 4).trans z4) ((hb 5).trans z5) ((hb 6).trans z6)
    have HRZF : Hid (∀ n : Nat, getF (names.drop k) x = .error n → ∀ W', Stored wr W' (w.heap.size + 3) 0 7 [.int .u8 0, .bool false, .int .i64 0, .int .u64 0, .string ⟨#[]⟩, .slice none 0 0, .slice none 0 0] → GetR (getF names root) w (.returned (.tuple #[.agg #[.int .u8 0, .bool false, .int .i64 0, .int .u64 0, .string ⟨#[]⟩, .slice none 0 0, .slice none 0 0], .int .i64 (n : Nat)])) W') := fun n hn W' hW => by
     rw [← HE.out, hn]
     exact ⟨HB.out.trans (hW.below (by omega)), rfl⟩
    by_cases hlt : k < names.length
    · have hlt' : (k : Int) < (names.length : Int) := by omega
      obtain ⟨n, hnk⟩ : ∃ n, names[k]? = some n := ⟨_, List.getElem?_eq_getElem hlt⟩
      obtain ⟨bn, on, rfl, hbn, hcn⟩ : ∃ bn on, an = some ⟨bn, on, none⟩ ∧ bn < w.heap.size ∧ w.cell? ⟨bn, on + k, none⟩ = some (.string n) := by
       obtain ⟨a', c', hv, -, -, h3⟩ := HNN.out
       injection hv with hv
       subst hv
       obtain ⟨b, o, e1, e2, e3⟩ := h3 (by intro e; rw [e] at hlt; simp at hlt)
       exact ⟨b, o, e1, e2.2, e3 k n hnk⟩
      have cn1 : wr.cell? ⟨bn, on + k, none⟩ = some (.string n) := (HB.out.cell (p := ⟨bn, _, none⟩) hbn).trans hcn
      have HDR := Lib.hid (drop_name hnk)
      clear hnk hcn hlt
      by_cases hk7 : x.h.kind = 7
      · have k7 : ((x.h.kind : Int) == 7) = true := by rw [hk7]; rfl
        have k7' : ((x.h.kind : Int) != 7) = false := by rw [hk7]; rfl
        have IXC : Hid (∀ W, Below w.heap.size wr W → Calls Tryz.prog 41 #[.slice b1 x.h.keys.length e1, .string n] W fun e w' => e = .returned (.int .i64 (if idxF n x.h.keys < x.h.keys.length then ((idxF n x.h.keys : Nat) : Int) else -1)) ∧ w' = W) := fun W hW =>
         IX.out W x.h.keys _ n (fun b => ok b ∧ b < w.heap.size) HSM.out.1.2.2.2.2.2.1 (HK.out.kept (fun b hb => hW.block b hb.2))
        have HGE : Hid (getF (names.drop k) x = if idxF n x.h.keys < x.h.keys.length then (match x.items.get (idxF n x.h.keys) with | some y => getF (names.drop (k + 1)) y | none => .error 200) else .error 200) := by
         unfold Hid; rw [HDR.out, getF, if_pos hk7]; rfl
        have HK7 := Lib.hid hk7
        clear hk7
        go_upto_region 9 with (fail)
        go_wp2_with fail
        refine (IXC.out _ (Below.refl _ _)).mono ?_
        rintro e w' ⟨rfl, hw'⟩
        obtain rfl : wr = w' := hw'.symm
        clear IXC cn1
        by_cases hi : idxF n x.h.keys < x.h.keys.length
        · rw [if_pos hi]
          have HGE2 : Hid (getF (names.drop k) x = match x.items.get (idxF n x.h.keys) with | some y => getF (names.drop (k + 1)) y | none => .error 200) := by unfold Hid; rw [HGE.out, if_pos hi]
          clear HGE hi
          generalize idxF n x.h.keys = q at *
          have hq0 : ¬ (q : Int) < 0 := by omega
          have hq1 : (0 : Int) ≤ (q : Int) := by omega
          by_cases hj : q < x.items.len
          · have hjI : (q : Int) < (x.items.len : Int) := by omega
            have hjJ : ¬ (x.items.len : Int) ≤ (q : Int) := by omega
            obtain ⟨y, hy⟩ := get_some hj
            have HNX : Hid (getF (names.drop (k + 1)) y = getF names root) := by unfold Hid; rw [← HE.out, HGE2.out, hy]
            have HSY := Lib.hid (Va.sm_get HSM.out hy)
            obtain ⟨ai, ci, hvi, -, -, hri⟩ := HIT.out
            injection hvi with hvi
            subst hvi
            obtain ⟨bi, oi, rfl, hbi, hrow⟩ := hri (by intro e; rw [e] at hj; simp [Vl.len] at hj)
            obtain ⟨rr, hrr⟩ := RowX.at _ _ _ _ _ hrow hy
            rw [show oi + 7 * q = oi + q * 7 by omega] at hrr
            obtain ⟨⟨c0, c1, c2, c3, c4, v5, c5, hs5⟩, ⟨ag, cg, c6, g1, g2, g3⟩, -⟩ := hrr
            obtain ⟨av5, cv5, rfl⟩ := hs5.cases
            have hne : bi ≠ w.heap.size + 4 := by have := hbi.2; omega
            have pf := frozen_cells HPX.out
            have HS5 := Lib.hid hs5
            have HG3 : Hid (Vals (fun b => ok b ∧ b < w.heap.size) wr (.slice ag y.items.len cg) y.items) := ⟨ag, cg, rfl, g1, g2, g3⟩
            clear hs5 g3 hrow hj hy
            go_wp2_with fail
            have HSTV2 := Lib.hid (set7 (p := 0) (.int .u8 (y.h.kind : Nat)) (.bool y.h.b) (.int .i64 y.h.n) (.int .u64 (y.h.bits : Nat)) (.string y.h.text) (.slice av5 y.h.keys.length cv5) (.slice ag y.items.len cg) p0 p1 p2 p3 p4 p5 p6)
            simp only [Nat.zero_add] at HSTV2
            have HBL2 := Lib.hid (set7_blk HPX.out (.int .u8 (y.h.kind : Nat)) (.bool y.h.b) (.int .i64 y.h.n) (.int .u64 (y.h.bits : Nat)) (.string y.h.text) (.slice av5 y.h.keys.length cv5) (.slice ag y.items.len cg))
            generalize hWW : World.setCell _ _ _ = W5 at *
            clear hWW
            have hka : Kept (fun b => ok b ∧ b < w.heap.size) wr W5 := fun b hb => HSTV2.out.oth b (by have := hb.2; omega)
            go_roundw
            case rel => exact ⟨k + 1, y, av5, cv5, ag, cg, by go_num, by omega, HNX, { res := (HSTV2.out.oth _ (by omega)).trans HRZ.out, at_ := HBL2.out, keys := HS5.out.kept hka, items := HG3.out.kept hka, bel := HB.out.trans (HSTV2.out.below (by omega)), size := by rw [HSTV2.out.size]; exact i6, sm := HSY.out }⟩
            case measure => simp [intOf]; omega
          · have hjI : ¬ (q : Int) < (x.items.len : Int) := by omega
            have hjJ : (x.items.len : Int) ≤ (q : Int) := by omega
            have HER : Hid (getF (names.drop k) x = .error 200) := by unfold Hid; rw [HGE2.out, get_none (by omega)]
            have HSTZ := Lib.hid (HZS.out wr rfl (.int .u8 0) (.bool false) (.int .i64 0) (.int .u64 0) (.string ⟨#[]⟩) (.slice none 0 0) (.slice none 0 0))
            clear hj p0 p1 p2 p3 p4
            go_wp2_with fail
            generalize hWW : World.setCell _ _ _ = W5 at *
            clear hWW
            exact ⟨rfl, _, results_get rfl rfl rfl HSTZ.out.is, HRZF.out 200 HER.out W5 HSTZ.out⟩
        · rw [if_neg hi]
          have HER : Hid (getF (names.drop k) x = .error 200) := by unfold Hid; rw [HGE.out, if_neg hi]
          have HSTZ := Lib.hid (HZS.out wr rfl (.int .u8 0) (.bool false) (.int .i64 0) (.int .u64 0) (.string ⟨#[]⟩) (.slice none 0 0) (.slice none 0 0))
          clear hi p0 p1 p2 p3 p4
          go_wp2_with fail
          generalize hWW : World.setCell _ _ _ = W5 at *
          clear hWW
          exact ⟨rfl, _, results_get rfl rfl rfl HSTZ.out.is, HRZF.out 200 HER.out W5 HSTZ.out⟩
      · have k7 : ((x.h.kind : Int) == 7) = false := beq_eq_false_iff_ne.2 (by omega)
        have k7' : ((x.h.kind : Int) != 7) = true := by simp [bne, k7]
        have k7'' : ¬ (x.h.kind : Int) = 7 := by omega
        have HER : Hid (getF (names.drop k) x = .error 201) := by unfold Hid; rw [HDR.out, getF, if_neg hk7]
        have HSTZ := Lib.hid (HZS.out wr rfl (.int .u8 0) (.bool false) (.int .i64 0) (.int .u64 0) (.string ⟨#[]⟩) (.slice none 0 0) (.slice none 0 0))
        clear hk7 p1 p2 p3 p4 p5 p6
        go_wp2_with fail
        generalize hWW : World.setCell _ _ _ = W5 at *
        clear hWW
        exact ⟨rfl, _, results_get rfl rfl rfl HSTZ.out.is, HRZF.out 201 HER.out W5 HSTZ.out⟩
    · have hge : ¬ (k : Int) < (names.length : Int) := by omega
      have HOK : Hid (getF names root = .ok x) := by unfold Hid; rw [← HE.out, List.drop_of_length_le (by omega), getF]
      have CC : Hid (Calls Tryz.prog 42 #[.agg #[.int .u8 (x.h.kind : Nat), .bool x.h.b, .int .i64 x.h.n, .int .u64 (x.h.bits : Nat), .string x.h.text, .slice b1 x.h.keys.length e1, .slice b2 x.items.len e2]] wr (CdP x wr)) := copied_calls x _ _ wr HSM.out ⟨_, _, rfl, HK.out, HIT.out⟩
      clear HRZF hlt
      go_wp2_with fail
      refine CC.out.mono ?_
      rintro e w4 ⟨v', rfl, ⟨uk, ui, rfl, hu, hui⟩, hb⟩
      obtain ⟨n5, m5, rfl⟩ := hu.cases
      obtain ⟨n6, m6, rfl, -⟩ := id hui
      have HR4 := Lib.hid ((hb.block (w.heap.size + 3) (by omega)).trans HRZ.out)
      have HSTZ := Lib.hid (HZS.out w4 (hb.block _ (by omega)) (.int .u8 (x.h.kind : Nat)) (.bool x.h.b) (.int .i64 x.h.n) (.int .u64 (x.h.bits : Nat)) (.string x.h.text) (.slice n5 x.h.keys.length m5) (.slice n6 x.items.len m6))
      have HU := Lib.hid hu
      have HUI := Lib.hid hui
      have HB4 := Lib.hid hb
      clear hu hui hb z0 z1 z2 z3 z4 z5 z6 zf p0 p1 p2 p3 p4 p5 p6
      have z0 : w4.cell? ⟨w.heap.size + 3, 0, none⟩ = some (.int .u8 0) := by rw [cell_of_heap' HR4.out]; rfl
      have z1 : w4.cell? ⟨w.heap.size + 3, 1, none⟩ = some (.bool false) := by rw [cell_of_heap' HR4.out]; rfl
      have z2 : w4.cell? ⟨w.heap.size + 3, 2, none⟩ = some (.int .i64 0) := by rw [cell_of_heap' HR4.out]; rfl
      have z3 : w4.cell? ⟨w.heap.size + 3, 3, none⟩ = some (.int .u64 0) := by rw [cell_of_heap' HR4.out]; rfl
      have z4 : w4.cell? ⟨w.heap.size + 3, 4, none⟩ = some (.string ⟨#[]⟩) := by rw [cell_of_heap' HR4.out]; rfl
      have z5 : w4.cell? ⟨w.heap.size + 3, 5, none⟩ = some (.slice none 0 0) := by rw [cell_of_heap' HR4.out]; rfl
      have z6 : w4.cell? ⟨w.heap.size + 3, 6, none⟩ = some (.slice none 0 0) := by rw [cell_of_heap' HR4.out]; rfl
      have zf := frozen_cells HR4.out
      go_wp2_with fail
      generalize hWW : World.setCell _ _ _ = W5 at *
      clear hWW
      have hkk : ∀ b, Nu wr.heap.size w4 b → Nu w.heap.size W5 b := fun b hb => ⟨by have := hb.1; omega, by rw [HSTZ.out.size]; exact hb.2.1, HSTZ.out.unf b hb.2.2⟩
      have hka : Kept (Nu wr.heap.size w4) w4 W5 := fun b hb => HSTZ.out.oth b (by have := hb.1; omega)
      refine ⟨rfl, _, results_get rfl rfl rfl HSTZ.out.is, ?_⟩
      have hfin : GetR (getF names root) w (.returned (.tuple #[.agg #[.int .u8 (x.h.kind : Nat), .bool x.h.b, .int .i64 x.h.n, .int .u64 (x.h.bits : Nat), .string x.h.text, .slice n5 x.h.keys.length m5, .slice n6 x.items.len m6], .int .i64 0])) W5 := by
       rw [HOK.out]
       exact ⟨(HB.out.trans (HB4.out.mono (by omega))).trans (HSTZ.out.below (by omega)), _, rfl, ⟨_, _, rfl, (HU.out.kept hka).mono hkk, (HUI.out.kept hka).mono hkk⟩, HSM.out⟩
      exact hfin
 | false =>
   go_upto_region 4 with (fail)
   have HG := Lib.hid (HG0.out dot _ _ _ _ HDK.out HDI.out HSD.out)
   clear hx0
   clear HG0 HDK HDI HRK HRI HSD HSR d0 d1 d2 d3 d4 d5 d6 r0 r1 r2 r3 r4 r5 r6 q0 HH0 HH1 HH3
   have q1 : (W0.alloc (.cells #[.int .u8 (dot.h.kind : Nat), .bool dot.h.b, .int .i64 dot.h.n, .int .u64 (dot.h.bits : Nat), .string dot.h.text, .slice a1 dot.h.keys.length c1, .slice a2 dot.items.len c2] 31)).cell? ⟨w.heap.size + 2, 1, none⟩ = some (.slice an names.length cn) := by
    rw [cell_of_heap' ((Below.heap_alloc _ _ _ (by omega)).trans HH2.out)]; rfl
   generalize hWW : World.alloc W0 _ = W1 at *
   clear hWW HB0 HS0 hz0 HH2
   go_wp2_with fail
   clear q1
   go_loopw [19] (fun i wr => ∃ (k : Nat) (x : Va) (b1 : Option Addr) (e1 : Nat) (b2 : Option Addr) (e2 : Nat), i = .int .i64 (k : Nat) ∧ k ≤ names.length ∧ Hid (getF (names.drop k) x = getF names dot) ∧ Hid (GtIn w.heap.size w wr ok x (.slice b1 x.h.keys.length e1) (.slice b2 x.items.len e2))) (fun i _ => names.length - (intOf i).toNat)
   case atStart => exact ⟨0, dot, a1, c1, a2, c2, rfl, Nat.zero_le _, by rw [List.drop_zero]; rfl, HG⟩
   case round =>
    obtain ⟨k, x, b1, e1, b2, e2, rfl, hk, HE, HI⟩ := hrel
    clear HG
    obtain ⟨i1, i2, i3, i4, i5, i6, i7⟩ := HI.out
    have hk0 : (0 : Int) ≤ (k : Int) := by omega
    obtain ⟨p0, p1, p2, p3, p4, p5, p6⟩ := xcCs i2
    have HRZ := Lib.hid i1
    have HPX := Lib.hid i2
    have HK := Lib.hid i3
    have HIT := Lib.hid i4
    have HB := Lib.hid i5
    have HSM := Lib.hid i7
    clear i1 i2 i3 i4 i5 i7 HI
    have z0 : wr.cell? ⟨w.heap.size + 3, 0, none⟩ = some (.int .u8 0) := by rw [cell_of_heap' HRZ.out]; rfl
    have z1 : wr.cell? ⟨w.heap.size + 3, 1, none⟩ = some (.bool false) := by rw [cell_of_heap' HRZ.out]; rfl
    have z2 : wr.cell? ⟨w.heap.size + 3, 2, none⟩ = some (.int .i64 0) := by rw [cell_of_heap' HRZ.out]; rfl
    have z3 : wr.cell? ⟨w.heap.size + 3, 3, none⟩ = some (.int .u64 0) := by rw [cell_of_heap' HRZ.out]; rfl
    have z4 : wr.cell? ⟨w.heap.size + 3, 4, none⟩ = some (.string ⟨#[]⟩) := by rw [cell_of_heap' HRZ.out]; rfl
    have z5 : wr.cell? ⟨w.heap.size + 3, 5, none⟩ = some (.slice none 0 0) := by rw [cell_of_heap' HRZ.out]; rfl
    have z6 : wr.cell? ⟨w.heap.size + 3, 6, none⟩ = some (.slice none 0 0) := by rw [cell_of_heap' HRZ.out]; rfl
    have zf := frozen_cells HRZ.out
    have HZS : Hid (∀ W, W.heap[w.heap.size + 3]? = wr.heap[w.heap.size + 3]? → ∀ a0 a1 a2 a3 a4 a5 a6, Stored W (((((((W.setCell ⟨w.heap.size + 3, 0, none⟩ a0).setCell ⟨w.heap.size + 3, 1, none⟩ a1).setCell ⟨w.heap.size + 3, 2, none⟩ a2).setCell ⟨w.heap.size + 3, 3, none⟩ a3).setCell ⟨w.heap.size + 3, 4, none⟩ a4).setCell ⟨w.heap.size + 3, 5, none⟩ a5).setCell ⟨w.heap.size + 3, 6, none⟩ a6) (w.heap.size + 3) 0 7 [a0, a1, a2, a3, a4, a5, a6]) := fun W hW a0 a1 a2 a3 a4 a5 a6 => by
     have hb : ∀ j, W.cell? ⟨w.heap.size + 3, j, none⟩ = wr.cell? ⟨w.heap.size + 3, j, none⟩ := fun j => World.cell?_of_block (w := wr) hW
     exact set7 (p := 0) a0 a1 a2 a3 a4 a5 a6 ((hb 0).trans z0) ((hb 1).trans z1) ((hb 2).trans z2) ((hb 3).trans z3) ((hb 4).trans z4) ((hb 5).trans z5) ((hb 6).trans z6)
    have HRZF : Hid (∀ n : Nat, getF (names.drop k) x = .error n → ∀ W', Stored wr W' (w.heap.size + 3) 0 7 [.int .u8 0, .bool false, .int .i64 0, .int .u64 0, .string ⟨#[]⟩, .slice none 0 0, .slice none 0 0] → GetR (getF names dot) w (.returned (.tuple #[.agg #[.int .u8 0, .bool false, .int .i64 0, .int .u64 0, .string ⟨#[]⟩, .slice none 0 0, .slice none 0 0], .int .i64 (n : Nat)])) W') := fun n hn W' hW => by
     rw [← HE.out, hn]
     exact ⟨HB.out.trans (hW.below (by omega)), rfl⟩
    by_cases hlt : k < names.length
    · have hlt' : (k : Int) < (names.length : Int) := by omega
      obtain ⟨n, hnk⟩ : ∃ n, names[k]? = some n := ⟨_, List.getElem?_eq_getElem hlt⟩
      obtain ⟨bn, on, rfl, hbn, hcn⟩ : ∃ bn on, an = some ⟨bn, on, none⟩ ∧ bn < w.heap.size ∧ w.cell? ⟨bn, on + k, none⟩ = some (.string n) := by
       obtain ⟨a', c', hv, -, -, h3⟩ := HNN.out
       injection hv with hv
       subst hv
       obtain ⟨b, o, e1, e2, e3⟩ := h3 (by intro e; rw [e] at hlt; simp at hlt)
       exact ⟨b, o, e1, e2.2, e3 k n hnk⟩
      have cn1 : wr.cell? ⟨bn, on + k, none⟩ = some (.string n) := (HB.out.cell (p := ⟨bn, _, none⟩) hbn).trans hcn
      have HDR := Lib.hid (drop_name hnk)
      clear hnk hcn hlt
      by_cases hk7 : x.h.kind = 7
      · have k7 : ((x.h.kind : Int) == 7) = true := by rw [hk7]; rfl
        have k7' : ((x.h.kind : Int) != 7) = false := by rw [hk7]; rfl
        have IXC : Hid (∀ W, Below w.heap.size wr W → Calls Tryz.prog 41 #[.slice b1 x.h.keys.length e1, .string n] W fun e w' => e = .returned (.int .i64 (if idxF n x.h.keys < x.h.keys.length then ((idxF n x.h.keys : Nat) : Int) else -1)) ∧ w' = W) := fun W hW =>
         IX.out W x.h.keys _ n (fun b => ok b ∧ b < w.heap.size) HSM.out.1.2.2.2.2.2.1 (HK.out.kept (fun b hb => hW.block b hb.2))
        have HGE : Hid (getF (names.drop k) x = if idxF n x.h.keys < x.h.keys.length then (match x.items.get (idxF n x.h.keys) with | some y => getF (names.drop (k + 1)) y | none => .error 200) else .error 200) := by
         unfold Hid; rw [HDR.out, getF, if_pos hk7]; rfl
        have HK7 := Lib.hid hk7
        clear hk7
        go_upto_region 9 with (fail)
        go_wp2_with fail
        refine (IXC.out _ (Below.refl _ _)).mono ?_
        rintro e w' ⟨rfl, hw'⟩
        obtain rfl : wr = w' := hw'.symm
        clear IXC cn1
        by_cases hi : idxF n x.h.keys < x.h.keys.length
        · rw [if_pos hi]
          have HGE2 : Hid (getF (names.drop k) x = match x.items.get (idxF n x.h.keys) with | some y => getF (names.drop (k + 1)) y | none => .error 200) := by unfold Hid; rw [HGE.out, if_pos hi]
          clear HGE hi
          generalize idxF n x.h.keys = q at *
          have hq0 : ¬ (q : Int) < 0 := by omega
          have hq1 : (0 : Int) ≤ (q : Int) := by omega
          by_cases hj : q < x.items.len
          · have hjI : (q : Int) < (x.items.len : Int) := by omega
            have hjJ : ¬ (x.items.len : Int) ≤ (q : Int) := by omega
            obtain ⟨y, hy⟩ := get_some hj
            have HNX : Hid (getF (names.drop (k + 1)) y = getF names dot) := by unfold Hid; rw [← HE.out, HGE2.out, hy]
            have HSY := Lib.hid (Va.sm_get HSM.out hy)
            obtain ⟨ai, ci, hvi, -, -, hri⟩ := HIT.out
            injection hvi with hvi
            subst hvi
            obtain ⟨bi, oi, rfl, hbi, hrow⟩ := hri (by intro e; rw [e] at hj; simp [Vl.len] at hj)
            obtain ⟨rr, hrr⟩ := RowX.at _ _ _ _ _ hrow hy
            rw [show oi + 7 * q = oi + q * 7 by omega] at hrr
            obtain ⟨⟨c0, c1, c2, c3, c4, v5, c5, hs5⟩, ⟨ag, cg, c6, g1, g2, g3⟩, -⟩ := hrr
            obtain ⟨av5, cv5, rfl⟩ := hs5.cases
            have hne : bi ≠ w.heap.size + 4 := by have := hbi.2; omega
            have pf := frozen_cells HPX.out
            have HS5 := Lib.hid hs5
            have HG3 : Hid (Vals (fun b => ok b ∧ b < w.heap.size) wr (.slice ag y.items.len cg) y.items) := ⟨ag, cg, rfl, g1, g2, g3⟩
            clear hs5 g3 hrow hj hy
            go_wp2_with fail
            have HSTV2 := Lib.hid (set7 (p := 0) (.int .u8 (y.h.kind : Nat)) (.bool y.h.b) (.int .i64 y.h.n) (.int .u64 (y.h.bits : Nat)) (.string y.h.text) (.slice av5 y.h.keys.length cv5) (.slice ag y.items.len cg) p0 p1 p2 p3 p4 p5 p6)
            simp only [Nat.zero_add] at HSTV2
            have HBL2 := Lib.hid (set7_blk HPX.out (.int .u8 (y.h.kind : Nat)) (.bool y.h.b) (.int .i64 y.h.n) (.int .u64 (y.h.bits : Nat)) (.string y.h.text) (.slice av5 y.h.keys.length cv5) (.slice ag y.items.len cg))
            generalize hWW : World.setCell _ _ _ = W5 at *
            clear hWW
            have hka : Kept (fun b => ok b ∧ b < w.heap.size) wr W5 := fun b hb => HSTV2.out.oth b (by have := hb.2; omega)
            go_roundw
            case rel => exact ⟨k + 1, y, av5, cv5, ag, cg, by go_num, by omega, HNX, { res := (HSTV2.out.oth _ (by omega)).trans HRZ.out, at_ := HBL2.out, keys := HS5.out.kept hka, items := HG3.out.kept hka, bel := HB.out.trans (HSTV2.out.below (by omega)), size := by rw [HSTV2.out.size]; exact i6, sm := HSY.out }⟩
            case measure => simp [intOf]; omega
          · have hjI : ¬ (q : Int) < (x.items.len : Int) := by omega
            have hjJ : (x.items.len : Int) ≤ (q : Int) := by omega
            have HER : Hid (getF (names.drop k) x = .error 200) := by unfold Hid; rw [HGE2.out, get_none (by omega)]
            have HSTZ := Lib.hid (HZS.out wr rfl (.int .u8 0) (.bool false) (.int .i64 0) (.int .u64 0) (.string ⟨#[]⟩) (.slice none 0 0) (.slice none 0 0))
            clear hj p0 p1 p2 p3 p4
            go_wp2_with fail
            generalize hWW : World.setCell _ _ _ = W5 at *
            clear hWW
            exact ⟨rfl, _, results_get rfl rfl rfl HSTZ.out.is, HRZF.out 200 HER.out W5 HSTZ.out⟩
        · rw [if_neg hi]
          have HER : Hid (getF (names.drop k) x = .error 200) := by unfold Hid; rw [HGE.out, if_neg hi]
          have HSTZ := Lib.hid (HZS.out wr rfl (.int .u8 0) (.bool false) (.int .i64 0) (.int .u64 0) (.string ⟨#[]⟩) (.slice none 0 0) (.slice none 0 0))
          clear hi p0 p1 p2 p3 p4
          go_wp2_with fail
          generalize hWW : World.setCell _ _ _ = W5 at *
          clear hWW
          exact ⟨rfl, _, results_get rfl rfl rfl HSTZ.out.is, HRZF.out 200 HER.out W5 HSTZ.out⟩
      · have k7 : ((x.h.kind : Int) == 7) = false := beq_eq_false_iff_ne.2 (by omega)
        have k7' : ((x.h.kind : Int) != 7) = true := by simp [bne, k7]
        have k7'' : ¬ (x.h.kind : Int) = 7 := by omega
        have HER : Hid (getF (names.drop k) x = .error 201) := by unfold Hid; rw [HDR.out, getF, if_neg hk7]
        have HSTZ := Lib.hid (HZS.out wr rfl (.int .u8 0) (.bool false) (.int .i64 0) (.int .u64 0) (.string ⟨#[]⟩) (.slice none 0 0) (.slice none 0 0))
        clear hk7 p1 p2 p3 p4 p5 p6
        go_wp2_with fail
        generalize hWW : World.setCell _ _ _ = W5 at *
        clear hWW
        exact ⟨rfl, _, results_get rfl rfl rfl HSTZ.out.is, HRZF.out 201 HER.out W5 HSTZ.out⟩
    · have hge : ¬ (k : Int) < (names.length : Int) := by omega
      have HOK : Hid (getF names dot = .ok x) := by unfold Hid; rw [← HE.out, List.drop_of_length_le (by omega), getF]
      have CC : Hid (Calls Tryz.prog 42 #[.agg #[.int .u8 (x.h.kind : Nat), .bool x.h.b, .int .i64 x.h.n, .int .u64 (x.h.bits : Nat), .string x.h.text, .slice b1 x.h.keys.length e1, .slice b2 x.items.len e2]] wr (CdP x wr)) := copied_calls x _ _ wr HSM.out ⟨_, _, rfl, HK.out, HIT.out⟩
      clear HRZF hlt
      go_wp2_with fail
      refine CC.out.mono ?_
      rintro e w4 ⟨v', rfl, ⟨uk, ui, rfl, hu, hui⟩, hb⟩
      obtain ⟨n5, m5, rfl⟩ := hu.cases
      obtain ⟨n6, m6, rfl, -⟩ := id hui
      have HR4 := Lib.hid ((hb.block (w.heap.size + 3) (by omega)).trans HRZ.out)
      have HSTZ := Lib.hid (HZS.out w4 (hb.block _ (by omega)) (.int .u8 (x.h.kind : Nat)) (.bool x.h.b) (.int .i64 x.h.n) (.int .u64 (x.h.bits : Nat)) (.string x.h.text) (.slice n5 x.h.keys.length m5) (.slice n6 x.items.len m6))
      have HU := Lib.hid hu
      have HUI := Lib.hid hui
      have HB4 := Lib.hid hb
      clear hu hui hb z0 z1 z2 z3 z4 z5 z6 zf p0 p1 p2 p3 p4 p5 p6
      have z0 : w4.cell? ⟨w.heap.size + 3, 0, none⟩ = some (.int .u8 0) := by rw [cell_of_heap' HR4.out]; rfl
      have z1 : w4.cell? ⟨w.heap.size + 3, 1, none⟩ = some (.bool false) := by rw [cell_of_heap' HR4.out]; rfl
      have z2 : w4.cell? ⟨w.heap.size + 3, 2, none⟩ = some (.int .i64 0) := by rw [cell_of_heap' HR4.out]; rfl
      have z3 : w4.cell? ⟨w.heap.size + 3, 3, none⟩ = some (.int .u64 0) := by rw [cell_of_heap' HR4.out]; rfl
      have z4 : w4.cell? ⟨w.heap.size + 3, 4, none⟩ = some (.string ⟨#[]⟩) := by rw [cell_of_heap' HR4.out]; rfl
      have z5 : w4.cell? ⟨w.heap.size + 3, 5, none⟩ = some (.slice none 0 0) := by rw [cell_of_heap' HR4.out]; rfl
      have z6 : w4.cell? ⟨w.heap.size + 3, 6, none⟩ = some (.slice none 0 0) := by rw [cell_of_heap' HR4.out]; rfl
      have zf := frozen_cells HR4.out
      go_wp2_with fail
      generalize hWW : World.setCell _ _ _ = W5 at *
      clear hWW
      have hkk : ∀ b, Nu wr.heap.size w4 b → Nu w.heap.size W5 b := fun b hb => ⟨by have := hb.1; omega, by rw [HSTZ.out.size]; exact hb.2.1, HSTZ.out.unf b hb.2.2⟩
      have hka : Kept (Nu wr.heap.size w4) w4 W5 := fun b hb => HSTZ.out.oth b (by have := hb.1; omega)
      refine ⟨rfl, _, results_get rfl rfl rfl HSTZ.out.is, ?_⟩
      have hfin : GetR (getF names dot) w (.returned (.tuple #[.agg #[.int .u8 (x.h.kind : Nat), .bool x.h.b, .int .i64 x.h.n, .int .u64 (x.h.bits : Nat), .string x.h.text, .slice n5 x.h.keys.length m5, .slice n6 x.items.len m6], .int .i64 0])) W5 := by
       rw [HOK.out]
       exact ⟨(HB.out.trans (HB4.out.mono (by omega))).trans (HSTZ.out.below (by omega)), _, rfl, ⟨_, _, rfl, (HU.out.kept hka).mono hkk, (HUI.out.kept hka).mono hkk⟩, HSM.out⟩
      exact hfin
end Go.Proofs.YtepcpgdfbaklfaaGreatDoor
