/-
  lacunaref19's action: else. The condition: no list is longer than 2 to the 24th.
-/
import Derived.Test.YtdgcdjpjnhlihaaGreatDoorMgTua
set_option linter.unusedVariables false
set_option linter.unusedSimpArgs false
namespace Go.Proofs.YtdgcdjpjnhlihaaGreatDoor
open Go.RowKit Go.Shelf

theorem shp2 {l : List By} (h : shp l = 2) : l = [kElse] := by
  match l, h with
  | [w], h =>
    simp only [shp] at h
    split at h
    · omega
    · split at h
      · rename_i e; rw [e]
      · omega
  | [w, a], h => simp only [shp] at h; split at h <;> first | (split at h <;> omega) | omega
  | [w, a, c], h => simp only [shp] at h; split at h <;> omega
theorem set_app0 (cs fc : List Value) (n : Nat) (hn : cs.length = n) (v : Value) : (cs ++ fc).set n v = cs ++ fc.set 0 v := set_app cs fc n 0 hn v
theorem own_set14 {w : World} {B n g c : Nat} {e : TypeId} {cs : List Value} {a0 a1 a2 a3 a4 a5 a6 a7 a8 a9 a10 a11 a12 a13 : Value} (hl : cs.length = n * 14) (h : w.ownsRow B e 14 (.slice (some ⟨g, 0, none⟩) (n + 1) c) (n + 1) (cs ++ [a0, a1, a2, a3, a4, a5, a6, a7, a8, a9, a10, a11, a12, a13])) (x0 x1 x2 x3 x4 x5 x6 x7 x8 x9 x10 x11 x12 x13 : Value) :
    ((((((((((((((w.setCell ⟨g, n * 14, none⟩ x0).setCell ⟨g, n * 14 + 1, none⟩ x1).setCell ⟨g, n * 14 + 2, none⟩ x2).setCell ⟨g, n * 14 + 3, none⟩ x3).setCell ⟨g, n * 14 + 4, none⟩ x4).setCell ⟨g, n * 14 + 5, none⟩ x5).setCell ⟨g, n * 14 + 6, none⟩ x6).setCell ⟨g, n * 14 + 7, none⟩ x7).setCell ⟨g, n * 14 + 8, none⟩ x8).setCell ⟨g, n * 14 + 9, none⟩ x9).setCell ⟨g, n * 14 + 10, none⟩ x10).setCell ⟨g, n * 14 + 11, none⟩ x11).setCell ⟨g, n * 14 + 12, none⟩ x12).setCell ⟨g, n * 14 + 13, none⟩ x13).ownsRow B e 14 (.slice (some ⟨g, 0, none⟩) (n + 1) c) (n + 1) (cs ++ [x0, x1, x2, x3, x4, x5, x6, x7, x8, x9, x10, x11, x12, x13]) ∧ (∀ b, b ≠ g → ((((((((((((((w.setCell ⟨g, n * 14, none⟩ x0).setCell ⟨g, n * 14 + 1, none⟩ x1).setCell ⟨g, n * 14 + 2, none⟩ x2).setCell ⟨g, n * 14 + 3, none⟩ x3).setCell ⟨g, n * 14 + 4, none⟩ x4).setCell ⟨g, n * 14 + 5, none⟩ x5).setCell ⟨g, n * 14 + 6, none⟩ x6).setCell ⟨g, n * 14 + 7, none⟩ x7).setCell ⟨g, n * 14 + 8, none⟩ x8).setCell ⟨g, n * 14 + 9, none⟩ x9).setCell ⟨g, n * 14 + 10, none⟩ x10).setCell ⟨g, n * 14 + 11, none⟩ x11).setCell ⟨g, n * 14 + 12, none⟩ x12).setCell ⟨g, n * 14 + 13, none⟩ x13).heap[b]? = w.heap[b]?) ∧ ((((((((((((((w.setCell ⟨g, n * 14, none⟩ x0).setCell ⟨g, n * 14 + 1, none⟩ x1).setCell ⟨g, n * 14 + 2, none⟩ x2).setCell ⟨g, n * 14 + 3, none⟩ x3).setCell ⟨g, n * 14 + 4, none⟩ x4).setCell ⟨g, n * 14 + 5, none⟩ x5).setCell ⟨g, n * 14 + 6, none⟩ x6).setCell ⟨g, n * 14 + 7, none⟩ x7).setCell ⟨g, n * 14 + 8, none⟩ x8).setCell ⟨g, n * 14 + 9, none⟩ x9).setCell ⟨g, n * 14 + 10, none⟩ x10).setCell ⟨g, n * 14 + 11, none⟩ x11).setCell ⟨g, n * 14 + 12, none⟩ x12).setCell ⟨g, n * 14 + 13, none⟩ x13).heap.size = w.heap.size := by
  refine ⟨?_, fun b hb => ?_, by simp [World.setCell]⟩
  · have := (own_setAt (own_setAt (own_setAt (own_setAt (own_setAt (own_setAt (own_setAt (own_setAt (own_setAt (own_setAt (own_setAt (own_setAt (own_setAt (own_setAt h (n * 14) x0) (n * 14 + 1) x1) (n * 14 + 2) x2) (n * 14 + 3) x3) (n * 14 + 4) x4) (n * 14 + 5) x5) (n * 14 + 6) x6) (n * 14 + 7) x7) (n * 14 + 8) x8) (n * 14 + 9) x9) (n * 14 + 10) x10) (n * 14 + 11) x11) (n * 14 + 12) x12) (n * 14 + 13) x13)
    rw [set_app0 _ _ _ hl, set_app _ _ _ _ hl, set_app _ _ _ _ hl, set_app _ _ _ _ hl, set_app _ _ _ _ hl, set_app _ _ _ _ hl, set_app _ _ _ _ hl, set_app _ _ _ _ hl, set_app _ _ _ _ hl, set_app _ _ _ _ hl, set_app _ _ _ _ hl, set_app _ _ _ _ hl, set_app _ _ _ _ hl, set_app _ _ _ _ hl] at this
    exact this
  · rw [Below.heap_setCell _ _ _ _ (show b ≠ _ from hb), Below.heap_setCell _ _ _ _ (show b ≠ _ from hb), Below.heap_setCell _ _ _ _ (show b ≠ _ from hb), Below.heap_setCell _ _ _ _ (show b ≠ _ from hb), Below.heap_setCell _ _ _ _ (show b ≠ _ from hb), Below.heap_setCell _ _ _ _ (show b ≠ _ from hb), Below.heap_setCell _ _ _ _ (show b ≠ _ from hb), Below.heap_setCell _ _ _ _ (show b ≠ _ from hb), Below.heap_setCell _ _ _ _ (show b ≠ _ from hb), Below.heap_setCell _ _ _ _ (show b ≠ _ from hb), Below.heap_setCell _ _ _ _ (show b ≠ _ from hb), Below.heap_setCell _ _ _ _ (show b ≠ _ from hb), Below.heap_setCell _ _ _ _ (show b ≠ _ from hb), Below.heap_setCell _ _ _ _ (show b ≠ _ from hb)]
/-- The top frame goes on behind its else. -/
theorem RdR.elsed {B q bx g c : Nat} {src : ByteArray} {s : St} {E : Nat × Nat} {col : Nat → Nat} {dv cv vn kv : Value} {w w2 : World} (hg : RdR B q bx src s E col (.slice (some ⟨g, 0, none⟩) (s.rest.length + 1) c) dv cv w) {cs : List Value} (hcg : col g = 2)
    (hfn : Strs (Ok col w) w vn (s.top.names.map mkB)) (hK : Kids B col w (6 + 2 * s.rest.length) kv s.top.kids) (hStk : StkC B col w q s.rest cs)
    (hown : w2.ownsRow B 93 14 (.slice (some ⟨g, 0, none⟩) (s.rest.length + 1) c) (s.rest.length + 1) (cs ++ frRow (elseF s.top) vn kv (.slice none 0 0))) (hb : ∀ b, b ≠ g → w2.heap[b]? = w.heap[b]?) (hsz : w.heap.size ≤ w2.heap.size) :
    RdR B q bx src { s with top := elseF s.top } E (fade col kv) (.slice (some ⟨g, 0, none⟩) (s.rest.length + 1) c) dv cv w2 := by
  have hcol : ∀ g, kv.ownBlock = some g → col g = 6 + 2 * s.rest.length := by
    obtain ⟨cs, ⟨-, h2⟩, -⟩ := hK
    exact h2
  have hS : Same (fun c => c ≠ 2 ∧ c ≠ 6 + 2 * s.rest.length) col (fade col kv) w w2 := ⟨hsz, fun b _ hc => ⟨fade_old hcol hc.2, hb b (fun e => hc.1 (by rw [e]; exact hcg))⟩⟩
  have c0 : (fun c => c ≠ 2 ∧ c ≠ 6 + 2 * s.rest.length) 0 := ⟨by omega, by omega⟩
  exact hg.retop hS (Nat.le_refl q) rfl hown ((fade_old hcol (by omega)).trans hcg) hStk ⟨Nat.zero_le _, vn, kv, .slice none 0 0, rfl, hS.strs c0 hfn, kids_faded hK hS c0 (fun g' hg' => hb g' (fun e => by have := hcol g' hg'; rw [e, hcg] at this; omega)), Kids.nil _ _ _ _⟩
set_option maxRecDepth 100000 in
set_option maxHeartbeats 8000000 in
theorem arm_2 (B q bx : Nat) (hq : q ≤ 16777212) (x : ByteArray) (hx : x.size ≤ 16777216) (at_ : Nat) (src : ByteArray) (s : St) (w : World) (h : RdN B q bx src s (0, 0) w) (hc : comment (bl x) = false) (hkd : (s.rest = [] ∨ s.top.kind = 6) ↔ (s.top.kind ≠ 3 ∧ s.top.kind ≠ 4)) : (actMCap B q bx hq x hx at_ src s w h hc).1 2 := by
  unfold actMCap
  intro col dv cv WL HWL HA g c hc1 hc2 hl2 w1 LB HLB wa wc1 hw1 hw2 HG1 HS1 HB1 c1' K1 hK1 hu
  intros
  clear h hc
  obtain rfl := shp2 hu
  have HE0 : Hid (action (bl x) at_ s = s.elseA at_) := HA.out.trans (actW_else at_ s)
  have hl : LB.length = 1 := by rw [← HLB.out]; rfl
  obtain ⟨b, o, rfl, hok, hcs⟩ := strs_at HS1.out (by rw [← HLB.out]; simp)
  obtain ⟨X0, hX0⟩ : ∃ X, mkB kElse = X := ⟨_, rfl⟩
  have d0 : w1.cell? ⟨b, o, none⟩ = some (.string X0) := hcs 0 _ (by rw [← HLB.out, ← hX0]; rfl)
  have b0 : bl X0 = kElse := by rw [← hX0]; exact bl_mkB _
  rw [hl]
  have hbl := hok.2.1
  clear hcs hok
  have q1 : (X0.toList == [101, 110, 100]) = false := by rw [tl_eq, b0]; exact rfl
  have q2 : (X0.toList == [101, 108, 115, 101]) = true := by rw [tl_eq, b0]; exact rfl
  obtain ⟨g2, c2, cs, vn, vk, kv, hsv, hc1', hc2', hcg, hgB, hgl, hown, hcl, hkl, hfn, hfk, hK, hStk, hF, hgz⟩ := HG1.out.top
  obtain ⟨rfl, rfl⟩ : g = g2 ∧ c = c2 := by injection hsv with e1 _ e2; injection e1 with e1; injection e1 with e1; exact ⟨e1, e2⟩
  obtain ⟨ka, n3, kc, rfl⟩ : ∃ a n k, kv = .slice a n k := by obtain ⟨a, k, h⟩ := hK.slice; exact ⟨a, _, k, h⟩
  obtain ⟨na, n1, nc, rfl⟩ : ∃ a n k, vn = .slice a n k := by obtain ⟨a, n, h, -⟩ := hfn; exact ⟨a, _, n, h⟩
  obtain ⟨pa, n2, pc, rfl⟩ : ∃ a n k, vk = .slice a n k := by obtain ⟨a, n, h, -⟩ := hfk; exact ⟨a, _, n, h⟩
  have wl : (s.rest.length : Int) < ((s.rest.length + 1 : Nat) : Int) := by omega
  have wl2 : (s.rest.length : Int) < (s.rest.length : Int) + 1 := by omega
  have w0 : (0 : Int) ≤ (s.rest.length : Int) := by omega
  have f0 : w1.cell? ⟨g, s.rest.length * 14, none⟩ = some (.int .i64 (s.top.kind : Nat)) := hF 0 _ rfl
  have f1 : w1.cell? ⟨g, s.rest.length * 14 + 1, none⟩ = some (.int .u8 ((if s.top.kind = 6 then 0 else s.top.kind : Nat) : Nat)) := hF 1 _ rfl
  have f2 : w1.cell? ⟨g, s.rest.length * 14 + 2, none⟩ = some (.int .i64 ((if s.top.kind = 6 then 0 else s.top.pos : Nat) : Nat)) := hF 2 _ rfl
  have f3 : w1.cell? ⟨g, s.rest.length * 14 + 3, none⟩ = some (.string ⟨#[]⟩) := hF 3 _ rfl
  have f4 : w1.cell? ⟨g, s.rest.length * 14 + 4, none⟩ = some (.bool s.top.root) := hF 4 _ rfl
  have f5 : w1.cell? ⟨g, s.rest.length * 14 + 5, none⟩ = some (.slice na n1 nc) := hF 5 _ rfl
  have f6 : w1.cell? ⟨g, s.rest.length * 14 + 6, none⟩ = some (.string ⟨#[]⟩) := hF 6 _ rfl
  have f7 : w1.cell? ⟨g, s.rest.length * 14 + 7, none⟩ = some (.slice pa n2 pc) := hF 7 _ rfl
  have f8 : w1.cell? ⟨g, s.rest.length * 14 + 8, none⟩ = some (.slice none 0 0) := hF 8 _ rfl
  have f9 : w1.cell? ⟨g, s.rest.length * 14 + 9, none⟩ = some (.bool s.top.els) := hF 9 _ rfl
  have f10 : w1.cell? ⟨g, s.rest.length * 14 + 10, none⟩ = some (.slice ka n3 kc) := hF 10 _ rfl
  have f11 : w1.cell? ⟨g, s.rest.length * 14 + 11, none⟩ = some (.string (mkB s.top.name)) := hF 11 _ rfl
  have f12 : w1.cell? ⟨g, s.rest.length * 14 + 12, none⟩ = some (.int .i64 ((if s.top.kind = 6 then s.top.pos else 0 : Nat) : Nat)) := hF 12 _ rfl
  have f13 : w1.cell? ⟨g, s.rest.length * 14 + 13, none⟩ = some (.slice none 0 0) := hF 13 _ rfl
  have SA := same_dyed (col := freshC col w.heap.size) w1 (.cells #[.int .i64 (s.top.kind : Nat), .int .u8 ((if s.top.kind = 6 then 0 else s.top.kind : Nat) : Nat), .int .i64 ((if s.top.kind = 6 then 0 else s.top.pos : Nat) : Nat), .string ⟨#[]⟩, .bool s.top.root, .slice na n1 nc, .string ⟨#[]⟩, .slice pa n2 pc, .slice none 0 0, .bool s.top.els, .slice ka n3 kc, .string (mkB s.top.name), .int .i64 ((if s.top.kind = 6 then s.top.pos else 0 : Nat) : Nat), .slice none 0 0] 93) 5
  have hgA := HG1.out.same SA (fun _ _ _ => trivial) (Nat.le_refl q)
  have hownA : (w1.alloc (.cells #[.int .i64 (s.top.kind : Nat), .int .u8 ((if s.top.kind = 6 then 0 else s.top.kind : Nat) : Nat), .int .i64 ((if s.top.kind = 6 then 0 else s.top.pos : Nat) : Nat), .string ⟨#[]⟩, .bool s.top.root, .slice na n1 nc, .string ⟨#[]⟩, .slice pa n2 pc, .slice none 0 0, .bool s.top.els, .slice ka n3 kc, .string (mkB s.top.name), .int .i64 ((if s.top.kind = 6 then s.top.pos else 0 : Nat) : Nat), .slice none 0 0] 93)).ownsRow B 93 14 (.slice (some ⟨g, 0, none⟩) (s.rest.length + 1) c) (s.rest.length + 1) (cs ++ frRow s.top (.slice na n1 nc) (.slice pa n2 pc) (.slice ka n3 kc)) := World.ownsRow.alloc hown _
  have hfnA := SA.strs trivial hfn
  have hKA := hK.same SA trivial trivial
  have hStkA := hStk.same SA trivial (Nat.le_refl q) _ _ (fun _ _ => trivial)
  have hcgA := (SA.2 g hgl trivial).1.trans hcg
  have HFB : Hid ((w1.alloc (.cells #[.int .i64 (s.top.kind : Nat), .int .u8 ((if s.top.kind = 6 then 0 else s.top.kind : Nat) : Nat), .int .i64 ((if s.top.kind = 6 then 0 else s.top.pos : Nat) : Nat), .string ⟨#[]⟩, .bool s.top.root, .slice na n1 nc, .string ⟨#[]⟩, .slice pa n2 pc, .slice none 0 0, .bool s.top.els, .slice ka n3 kc, .string (mkB s.top.name), .int .i64 ((if s.top.kind = 6 then s.top.pos else 0 : Nat) : Nat), .slice none 0 0] 93)).heap[w1.heap.size]? = some (.cells #[.int .i64 (s.top.kind : Nat), .int .u8 ((if s.top.kind = 6 then 0 else s.top.kind : Nat) : Nat), .int .i64 ((if s.top.kind = 6 then 0 else s.top.pos : Nat) : Nat), .string ⟨#[]⟩, .bool s.top.root, .slice na n1 nc, .string ⟨#[]⟩, .slice pa n2 pc, .slice none 0 0, .bool s.top.els, .slice ka n3 kc, .string (mkB s.top.name), .int .i64 ((if s.top.kind = 6 then s.top.pos else 0 : Nat) : Nat), .slice none 0 0] 93 (0, 0))) := heap_alloc_new w1 _
  have HBw1 : B ≤ w1.heap.size := HG1.out.hB
  have HBA : Hid (Below B w (w1.alloc (.cells #[.int .i64 (s.top.kind : Nat), .int .u8 ((if s.top.kind = 6 then 0 else s.top.kind : Nat) : Nat), .int .i64 ((if s.top.kind = 6 then 0 else s.top.pos : Nat) : Nat), .string ⟨#[]⟩, .bool s.top.root, .slice na n1 nc, .string ⟨#[]⟩, .slice pa n2 pc, .slice none 0 0, .bool s.top.els, .slice ka n3 kc, .string (mkB s.top.name), .int .i64 ((if s.top.kind = 6 then s.top.pos else 0 : Nat) : Nat), .slice none 0 0] 93))) := HB1.out.alloc HBw1 _
  have h5 : dye (freshC col w.heap.size) w1.heap.size 5 w1.heap.size = 5 := dye_new _ _
  have hz1 : w1.heap.size < (w1.alloc (.cells #[.int .i64 (s.top.kind : Nat), .int .u8 ((if s.top.kind = 6 then 0 else s.top.kind : Nat) : Nat), .int .i64 ((if s.top.kind = 6 then 0 else s.top.pos : Nat) : Nat), .string ⟨#[]⟩, .bool s.top.root, .slice na n1 nc, .string ⟨#[]⟩, .slice pa n2 pc, .slice none 0 0, .bool s.top.els, .slice ka n3 kc, .string (mkB s.top.name), .int .i64 ((if s.top.kind = 6 then s.top.pos else 0 : Nat) : Nat), .slice none 0 0] 93)).heap.size := by simp
  clear SA HG1 HS1 HLB HWL HA hw1 hw2 hu hl b0 hbl hown hStk hfn hfk hK hF hgz hc1 hc2 hc1' hc2' hcg hgl hkl hsv
  go_upto_region 9 with (fail)
  generalize dye (freshC col w.heap.size) w1.heap.size 5 = col2 at *
  generalize hW1 : World.alloc w1 _ = W1 at *
  clear hW1 c1' f0 f1 f2 f3 f4 f5 f6 f7 f8 f9 f10 f11 f12 f13
  have FC := Lib.hid (failR_calls B q bx 192 at_ src s (0, 0) _ _ _ _ _ hgA)
  have pp := cell_of_heap' HFB.out
  have p0 : W1.cell? ⟨w1.heap.size, 0, none⟩ = some (.int .i64 (s.top.kind : Nat)) := pp 0
  have p1 : W1.cell? ⟨w1.heap.size, 1, none⟩ = some (.int .u8 ((if s.top.kind = 6 then 0 else s.top.kind : Nat) : Nat)) := pp 1
  have p2 : W1.cell? ⟨w1.heap.size, 2, none⟩ = some (.int .i64 ((if s.top.kind = 6 then 0 else s.top.pos : Nat) : Nat)) := pp 2
  have p3 : W1.cell? ⟨w1.heap.size, 3, none⟩ = some (.string ⟨#[]⟩) := pp 3
  have p4 : W1.cell? ⟨w1.heap.size, 4, none⟩ = some (.bool s.top.root) := pp 4
  have p5 : W1.cell? ⟨w1.heap.size, 5, none⟩ = some (.slice na n1 nc) := pp 5
  have p6 : W1.cell? ⟨w1.heap.size, 6, none⟩ = some (.string ⟨#[]⟩) := pp 6
  have p7 : W1.cell? ⟨w1.heap.size, 7, none⟩ = some (.slice pa n2 pc) := pp 7
  have p8 : W1.cell? ⟨w1.heap.size, 8, none⟩ = some (.slice none 0 0) := pp 8
  have p9 : W1.cell? ⟨w1.heap.size, 9, none⟩ = some (.bool s.top.els) := pp 9
  have p10 : W1.cell? ⟨w1.heap.size, 10, none⟩ = some (.slice ka n3 kc) := pp 10
  have p11 : W1.cell? ⟨w1.heap.size, 11, none⟩ = some (.string (mkB s.top.name)) := pp 11
  have p12 : W1.cell? ⟨w1.heap.size, 12, none⟩ = some (.int .i64 ((if s.top.kind = 6 then s.top.pos else 0 : Nat) : Nat)) := pp 12
  have p13 : W1.cell? ⟨w1.heap.size, 13, none⟩ = some (.slice none 0 0) := pp 13
  have pz := frozen_cells HFB.out
  clear pp
  by_cases k3 : s.top.kind = 3
  · have e3 : ((s.top.kind : Int) == 3) = true := by rw [k3]; rfl
    have e3n : ((s.top.kind : Int) != 3) = false := by rw [k3]; rfl
    cases he : s.top.els with
    | true =>
      rw [he] at p9
      have HE := Lib.hid (HE0.out.trans (else_err s at_ (.inr (.inr he))))
      clear HE0 hkd
      go_wp2_with fail
      all_goals
        refine FC.out.mono ?_
        rintro e w4 ⟨rfl, hb4, hs4, hg4⟩
        have HB4 := Lib.hid (HBA.out.trans hb4)
        have HG4 := Lib.hid hg4
        clear hb4 hs4 hg4 FC
        go_wp2_with fail
        first | go_end0 | skip
        rw [HE.out]
        exact ⟨rfl, HB4.out, s, (192, at_), ⟨_, _, _, _, HG4.out.more (by omega)⟩, by decide, rfl⟩
    | false =>
      have HE := Lib.hid (HE0.out.trans (else_ok s at_ (by rintro (h | h | h); exact (hkd.1 (.inl h)).1 k3; exact (hkd.1 (.inr h)).1 k3; rw [he] at h; cases h)))
      rw [he] at p9
      clear HE0 hkd FC
      go_upto_region 14 with (fail)
      have HF2 := set_cells (j := 10) (set_cells (j := 7) (set_cells (j := 9) HFB.out (.bool true)) (.slice ka n3 kc)) (.slice none 0 0)
      have S1 := same_set col2 W1 w1.heap.size 9 5 (.bool true) h5
      have S2 := same_set col2 (W1.setCell ⟨w1.heap.size, 9, none⟩ (.bool true)) w1.heap.size 7 5 (.slice ka n3 kc) h5
      have S3 := same_set col2 ((W1.setCell ⟨w1.heap.size, 9, none⟩ (.bool true)).setCell ⟨w1.heap.size, 7, none⟩ (.slice ka n3 kc)) w1.heap.size 10 5 (.slice none 0 0) h5
      have hg2 := hgA.same (same_tr (same_tr S1 S2) S3) (fun c _ h => h) (Nat.le_refl q)
      have HB2 := Lib.hid (((HBA.out.setCell (p := ⟨w1.heap.size, 9, none⟩) HBw1 (.bool true)).setCell (p := ⟨w1.heap.size, 7, none⟩) HBw1 (.slice ka n3 kc)).setCell (p := ⟨w1.heap.size, 10, none⟩) HBw1 (.slice none 0 0))
      have S4 := same_tr (same_tr S1 S2) S3
      have hfn := S4.strs (by decide) hfnA
      have hK := hKA.same S4 (by decide) (by omega)
      have hStk := hStkA.same S4 (by decide) (Nat.le_refl q) _ _ (fun i _ => by omega)
      have hgl : g < W1.heap.size := (World.ownsRow.lt hownA g rfl).2
      have hown := ownsRow.same hownA (fun g' hg' => by
        have : g = g' := by simpa [Value.ownBlock] using hg'
        subst this
        exact (S4.2 g hgl (by rw [hcgA]; decide)).2)
      have hcg := hcgA
      clear S1 S2 S3 S4 hgA HBA hfnA hKA hStkA hownA p0 p1 p2 p3 p4 p5 p6 p7 p8 p9 p10 p11 p12 p13
      generalize hW2 : World.setCell (World.setCell (World.setCell W1 _ _) _ _) _ _ = W2 at *
      clear hW2 HFB
      have c1 := hg2.cells.2.1
      have pp := cell_of_heap' HF2
      have y0 : W2.cell? ⟨w1.heap.size, 0, none⟩ = some (.int .i64 (s.top.kind : Nat)) := pp 0
      have y1 : W2.cell? ⟨w1.heap.size, 1, none⟩ = some (.int .u8 ((if s.top.kind = 6 then 0 else s.top.kind : Nat) : Nat)) := pp 1
      have y2 : W2.cell? ⟨w1.heap.size, 2, none⟩ = some (.int .i64 ((if s.top.kind = 6 then 0 else s.top.pos : Nat) : Nat)) := pp 2
      have y3 : W2.cell? ⟨w1.heap.size, 3, none⟩ = some (.string ⟨#[]⟩) := pp 3
      have y4 : W2.cell? ⟨w1.heap.size, 4, none⟩ = some (.bool s.top.root) := pp 4
      have y5 : W2.cell? ⟨w1.heap.size, 5, none⟩ = some (.slice na n1 nc) := pp 5
      have y6 : W2.cell? ⟨w1.heap.size, 6, none⟩ = some (.string ⟨#[]⟩) := pp 6
      have y7 : W2.cell? ⟨w1.heap.size, 7, none⟩ = some (.slice ka n3 kc) := pp 7
      have y8 : W2.cell? ⟨w1.heap.size, 8, none⟩ = some (.slice none 0 0) := pp 8
      have y9 : W2.cell? ⟨w1.heap.size, 9, none⟩ = some (.bool true) := pp 9
      have y10 : W2.cell? ⟨w1.heap.size, 10, none⟩ = some (.slice none 0 0) := pp 10
      have y11 : W2.cell? ⟨w1.heap.size, 11, none⟩ = some (.string (mkB s.top.name)) := pp 11
      have y12 : W2.cell? ⟨w1.heap.size, 12, none⟩ = some (.int .i64 ((if s.top.kind = 6 then s.top.pos else 0 : Nat) : Nat)) := pp 12
      have y13 : W2.cell? ⟨w1.heap.size, 13, none⟩ = some (.slice none 0 0) := pp 13
      clear pp
      have oc := own_cells hown
      have hF : ∀ j u, (frRow s.top (.slice na n1 nc) (.slice pa n2 pc) (.slice ka n3 kc))[j]? = some u → W2.cell? ⟨g, s.rest.length * 14 + j, none⟩ = some u := fun j u hj => oc.1 _ _ (by rw [List.getElem?_append_right (by omega), ← hcl, Nat.add_sub_cancel_left]; exact hj)
      have hgz := oc.2
      clear oc
      have g0 : W2.cell? ⟨g, s.rest.length * 14, none⟩ = some _ := hF 0 _ rfl
      have g1 : W2.cell? ⟨g, s.rest.length * 14 + 1, none⟩ = some _ := hF 1 _ rfl
      have g2 : W2.cell? ⟨g, s.rest.length * 14 + 2, none⟩ = some _ := hF 2 _ rfl
      have g3 : W2.cell? ⟨g, s.rest.length * 14 + 3, none⟩ = some _ := hF 3 _ rfl
      have g4 : W2.cell? ⟨g, s.rest.length * 14 + 4, none⟩ = some _ := hF 4 _ rfl
      have g5 : W2.cell? ⟨g, s.rest.length * 14 + 5, none⟩ = some _ := hF 5 _ rfl
      have g6 : W2.cell? ⟨g, s.rest.length * 14 + 6, none⟩ = some _ := hF 6 _ rfl
      have g7 : W2.cell? ⟨g, s.rest.length * 14 + 7, none⟩ = some _ := hF 7 _ rfl
      have g8 : W2.cell? ⟨g, s.rest.length * 14 + 8, none⟩ = some _ := hF 8 _ rfl
      have g9 : W2.cell? ⟨g, s.rest.length * 14 + 9, none⟩ = some _ := hF 9 _ rfl
      have g10 : W2.cell? ⟨g, s.rest.length * 14 + 10, none⟩ = some _ := hF 10 _ rfl
      have g11 : W2.cell? ⟨g, s.rest.length * 14 + 11, none⟩ = some _ := hF 11 _ rfl
      have g12 : W2.cell? ⟨g, s.rest.length * 14 + 12, none⟩ = some _ := hF 12 _ rfl
      have g13 : W2.cell? ⟨g, s.rest.length * 14 + 13, none⟩ = some _ := hF 13 _ rfl
      go_region
      all_goals
        obtain ⟨ho4, hb4, hs4⟩ := own_set14 (w := W2) hcl hown (.int .i64 3) (.int .u8 3) (.int .i64 (s.top.pos : Nat)) (.string ⟨#[]⟩) (.bool s.top.root) (.slice na n1 nc) (.string ⟨#[]⟩) (.slice ka n3 kc) (.slice none 0 0) (.bool true) (.slice none 0 0) (.string (mkB s.top.name)) (.int .i64 0) (.slice none 0 0)
        have hrow : frRow (elseF s.top) (.slice na n1 nc) (.slice ka n3 kc) (.slice none 0 0) = [.int .i64 3, .int .u8 3, .int .i64 (s.top.pos : Nat), .string ⟨#[]⟩, .bool s.top.root, .slice na n1 nc, .string ⟨#[]⟩, .slice ka n3 kc, .slice none 0 0, .bool true, .slice none 0 0, .string (mkB s.top.name), .int .i64 0, .slice none 0 0] := by unfold frRow elseF; simp [k3]
        rw [← hrow] at ho4
        have hg4 := Lib.hid (hg2.elsed hcg hfn hK hStk ho4 hb4 (Nat.le_of_eq hs4.symm))
        have hB4 := Lib.hid (((((((((((((((HB2.out.setCell (p := ⟨g, s.rest.length * 14, none⟩) hgB (.int .i64 3)).setCell (p := ⟨g, s.rest.length * 14 + 1, none⟩) hgB (.int .u8 3)).setCell (p := ⟨g, s.rest.length * 14 + 2, none⟩) hgB (.int .i64 (s.top.pos : Nat))).setCell (p := ⟨g, s.rest.length * 14 + 3, none⟩) hgB (.string ⟨#[]⟩)).setCell (p := ⟨g, s.rest.length * 14 + 4, none⟩) hgB (.bool s.top.root)).setCell (p := ⟨g, s.rest.length * 14 + 5, none⟩) hgB (.slice na n1 nc)).setCell (p := ⟨g, s.rest.length * 14 + 6, none⟩) hgB (.string ⟨#[]⟩)).setCell (p := ⟨g, s.rest.length * 14 + 7, none⟩) hgB (.slice ka n3 kc)).setCell (p := ⟨g, s.rest.length * 14 + 8, none⟩) hgB (.slice none 0 0)).setCell (p := ⟨g, s.rest.length * 14 + 9, none⟩) hgB (.bool true)).setCell (p := ⟨g, s.rest.length * 14 + 10, none⟩) hgB (.slice none 0 0)).setCell (p := ⟨g, s.rest.length * 14 + 11, none⟩) hgB (.string (mkB s.top.name))).setCell (p := ⟨g, s.rest.length * 14 + 12, none⟩) hgB (.int .i64 0)).setCell (p := ⟨g, s.rest.length * 14 + 13, none⟩) hgB (.slice none 0 0)))
        clear ho4 hb4 hs4 hF hgz hown hStk hfn hK hg2 HF2 hrow
        go_wp2_with fail
        first | go_end0 | skip
        rw [HE.out]
        generalize hW9 : World.setCell (World.setCell (World.setCell (World.setCell (World.setCell (World.setCell (World.setCell (World.setCell (World.setCell (World.setCell (World.setCell (World.setCell (World.setCell (World.setCell W2 _ _) _ _) _ _) _ _) _ _) _ _) _ _) _ _) _ _) _ _) _ _) _ _) _ _) _ _ = W9 at hg4 hB4 ⊢
        exact ⟨rfl, hB4.out.trans ((Sl.drew W9).below B), _, _, ⟨_, _, _, _, (hg4.out.same ((Sl.drew W9).same (fun _ => True) _) (fun _ _ _ => trivial) (Nat.le_refl q)).more (by omega)⟩, rfl, rfl⟩
  · have e3 : ((s.top.kind : Int) == 3) = false := beq_eq_false_iff_ne.2 (by omega)
    have e3n : ((s.top.kind : Int) != 3) = true := by simp only [bne, e3]; rfl
    by_cases k4 : s.top.kind = 4
    · have e4 : ((s.top.kind : Int) == 4) = true := by rw [k4]; rfl
      have e4n : ((s.top.kind : Int) != 4) = false := by rw [k4]; rfl
      cases he : s.top.els with
      | true =>
        rw [he] at p9
        have HE := Lib.hid (HE0.out.trans (else_err s at_ (.inr (.inr he))))
        clear HE0 hkd
        go_wp2_with fail
        all_goals
          refine FC.out.mono ?_
          rintro e w4 ⟨rfl, hb4, hs4, hg4⟩
          have HB4 := Lib.hid (HBA.out.trans hb4)
          have HG4 := Lib.hid hg4
          clear hb4 hs4 hg4 FC
          go_wp2_with fail
          first | go_end0 | skip
          rw [HE.out]
          exact ⟨rfl, HB4.out, s, (192, at_), ⟨_, _, _, _, HG4.out.more (by omega)⟩, by decide, rfl⟩
      | false =>
        have HE := Lib.hid (HE0.out.trans (else_ok s at_ (by rintro (h | h | h); exact (hkd.1 (.inl h)).2 k4; exact (hkd.1 (.inr h)).2 k4; rw [he] at h; cases h)))
        rw [he] at p9
        clear HE0 hkd FC
        go_upto_region 14 with (fail)
        have HF2 := set_cells (j := 10) (set_cells (j := 7) (set_cells (j := 9) HFB.out (.bool true)) (.slice ka n3 kc)) (.slice none 0 0)
        have S1 := same_set col2 W1 w1.heap.size 9 5 (.bool true) h5
        have S2 := same_set col2 (W1.setCell ⟨w1.heap.size, 9, none⟩ (.bool true)) w1.heap.size 7 5 (.slice ka n3 kc) h5
        have S3 := same_set col2 ((W1.setCell ⟨w1.heap.size, 9, none⟩ (.bool true)).setCell ⟨w1.heap.size, 7, none⟩ (.slice ka n3 kc)) w1.heap.size 10 5 (.slice none 0 0) h5
        have hg2 := hgA.same (same_tr (same_tr S1 S2) S3) (fun c _ h => h) (Nat.le_refl q)
        have HB2 := Lib.hid (((HBA.out.setCell (p := ⟨w1.heap.size, 9, none⟩) HBw1 (.bool true)).setCell (p := ⟨w1.heap.size, 7, none⟩) HBw1 (.slice ka n3 kc)).setCell (p := ⟨w1.heap.size, 10, none⟩) HBw1 (.slice none 0 0))
        have S4 := same_tr (same_tr S1 S2) S3
        have hfn := S4.strs (by decide) hfnA
        have hK := hKA.same S4 (by decide) (by omega)
        have hStk := hStkA.same S4 (by decide) (Nat.le_refl q) _ _ (fun i _ => by omega)
        have hgl : g < W1.heap.size := (World.ownsRow.lt hownA g rfl).2
        have hown := ownsRow.same hownA (fun g' hg' => by
          have : g = g' := by simpa [Value.ownBlock] using hg'
          subst this
          exact (S4.2 g hgl (by rw [hcgA]; decide)).2)
        have hcg := hcgA
        clear S1 S2 S3 S4 hgA HBA hfnA hKA hStkA hownA p0 p1 p2 p3 p4 p5 p6 p7 p8 p9 p10 p11 p12 p13
        generalize hW2 : World.setCell (World.setCell (World.setCell W1 _ _) _ _) _ _ = W2 at *
        clear hW2 HFB
        have c1 := hg2.cells.2.1
        have pp := cell_of_heap' HF2
        have y0 : W2.cell? ⟨w1.heap.size, 0, none⟩ = some (.int .i64 (s.top.kind : Nat)) := pp 0
        have y1 : W2.cell? ⟨w1.heap.size, 1, none⟩ = some (.int .u8 ((if s.top.kind = 6 then 0 else s.top.kind : Nat) : Nat)) := pp 1
        have y2 : W2.cell? ⟨w1.heap.size, 2, none⟩ = some (.int .i64 ((if s.top.kind = 6 then 0 else s.top.pos : Nat) : Nat)) := pp 2
        have y3 : W2.cell? ⟨w1.heap.size, 3, none⟩ = some (.string ⟨#[]⟩) := pp 3
        have y4 : W2.cell? ⟨w1.heap.size, 4, none⟩ = some (.bool s.top.root) := pp 4
        have y5 : W2.cell? ⟨w1.heap.size, 5, none⟩ = some (.slice na n1 nc) := pp 5
        have y6 : W2.cell? ⟨w1.heap.size, 6, none⟩ = some (.string ⟨#[]⟩) := pp 6
        have y7 : W2.cell? ⟨w1.heap.size, 7, none⟩ = some (.slice ka n3 kc) := pp 7
        have y8 : W2.cell? ⟨w1.heap.size, 8, none⟩ = some (.slice none 0 0) := pp 8
        have y9 : W2.cell? ⟨w1.heap.size, 9, none⟩ = some (.bool true) := pp 9
        have y10 : W2.cell? ⟨w1.heap.size, 10, none⟩ = some (.slice none 0 0) := pp 10
        have y11 : W2.cell? ⟨w1.heap.size, 11, none⟩ = some (.string (mkB s.top.name)) := pp 11
        have y12 : W2.cell? ⟨w1.heap.size, 12, none⟩ = some (.int .i64 ((if s.top.kind = 6 then s.top.pos else 0 : Nat) : Nat)) := pp 12
        have y13 : W2.cell? ⟨w1.heap.size, 13, none⟩ = some (.slice none 0 0) := pp 13
        clear pp
        have oc := own_cells hown
        have hF : ∀ j u, (frRow s.top (.slice na n1 nc) (.slice pa n2 pc) (.slice ka n3 kc))[j]? = some u → W2.cell? ⟨g, s.rest.length * 14 + j, none⟩ = some u := fun j u hj => oc.1 _ _ (by rw [List.getElem?_append_right (by omega), ← hcl, Nat.add_sub_cancel_left]; exact hj)
        have hgz := oc.2
        clear oc
        have g0 : W2.cell? ⟨g, s.rest.length * 14, none⟩ = some _ := hF 0 _ rfl
        have g1 : W2.cell? ⟨g, s.rest.length * 14 + 1, none⟩ = some _ := hF 1 _ rfl
        have g2 : W2.cell? ⟨g, s.rest.length * 14 + 2, none⟩ = some _ := hF 2 _ rfl
        have g3 : W2.cell? ⟨g, s.rest.length * 14 + 3, none⟩ = some _ := hF 3 _ rfl
        have g4 : W2.cell? ⟨g, s.rest.length * 14 + 4, none⟩ = some _ := hF 4 _ rfl
        have g5 : W2.cell? ⟨g, s.rest.length * 14 + 5, none⟩ = some _ := hF 5 _ rfl
        have g6 : W2.cell? ⟨g, s.rest.length * 14 + 6, none⟩ = some _ := hF 6 _ rfl
        have g7 : W2.cell? ⟨g, s.rest.length * 14 + 7, none⟩ = some _ := hF 7 _ rfl
        have g8 : W2.cell? ⟨g, s.rest.length * 14 + 8, none⟩ = some _ := hF 8 _ rfl
        have g9 : W2.cell? ⟨g, s.rest.length * 14 + 9, none⟩ = some _ := hF 9 _ rfl
        have g10 : W2.cell? ⟨g, s.rest.length * 14 + 10, none⟩ = some _ := hF 10 _ rfl
        have g11 : W2.cell? ⟨g, s.rest.length * 14 + 11, none⟩ = some _ := hF 11 _ rfl
        have g12 : W2.cell? ⟨g, s.rest.length * 14 + 12, none⟩ = some _ := hF 12 _ rfl
        have g13 : W2.cell? ⟨g, s.rest.length * 14 + 13, none⟩ = some _ := hF 13 _ rfl
        go_region
        all_goals
          obtain ⟨ho4, hb4, hs4⟩ := own_set14 (w := W2) hcl hown (.int .i64 4) (.int .u8 4) (.int .i64 (s.top.pos : Nat)) (.string ⟨#[]⟩) (.bool s.top.root) (.slice na n1 nc) (.string ⟨#[]⟩) (.slice ka n3 kc) (.slice none 0 0) (.bool true) (.slice none 0 0) (.string (mkB s.top.name)) (.int .i64 0) (.slice none 0 0)
          have hrow : frRow (elseF s.top) (.slice na n1 nc) (.slice ka n3 kc) (.slice none 0 0) = [.int .i64 4, .int .u8 4, .int .i64 (s.top.pos : Nat), .string ⟨#[]⟩, .bool s.top.root, .slice na n1 nc, .string ⟨#[]⟩, .slice ka n3 kc, .slice none 0 0, .bool true, .slice none 0 0, .string (mkB s.top.name), .int .i64 0, .slice none 0 0] := by unfold frRow elseF; simp [k4]
          rw [← hrow] at ho4
          have hg4 := Lib.hid (hg2.elsed hcg hfn hK hStk ho4 hb4 (Nat.le_of_eq hs4.symm))
          have hB4 := Lib.hid (((((((((((((((HB2.out.setCell (p := ⟨g, s.rest.length * 14, none⟩) hgB (.int .i64 4)).setCell (p := ⟨g, s.rest.length * 14 + 1, none⟩) hgB (.int .u8 4)).setCell (p := ⟨g, s.rest.length * 14 + 2, none⟩) hgB (.int .i64 (s.top.pos : Nat))).setCell (p := ⟨g, s.rest.length * 14 + 3, none⟩) hgB (.string ⟨#[]⟩)).setCell (p := ⟨g, s.rest.length * 14 + 4, none⟩) hgB (.bool s.top.root)).setCell (p := ⟨g, s.rest.length * 14 + 5, none⟩) hgB (.slice na n1 nc)).setCell (p := ⟨g, s.rest.length * 14 + 6, none⟩) hgB (.string ⟨#[]⟩)).setCell (p := ⟨g, s.rest.length * 14 + 7, none⟩) hgB (.slice ka n3 kc)).setCell (p := ⟨g, s.rest.length * 14 + 8, none⟩) hgB (.slice none 0 0)).setCell (p := ⟨g, s.rest.length * 14 + 9, none⟩) hgB (.bool true)).setCell (p := ⟨g, s.rest.length * 14 + 10, none⟩) hgB (.slice none 0 0)).setCell (p := ⟨g, s.rest.length * 14 + 11, none⟩) hgB (.string (mkB s.top.name))).setCell (p := ⟨g, s.rest.length * 14 + 12, none⟩) hgB (.int .i64 0)).setCell (p := ⟨g, s.rest.length * 14 + 13, none⟩) hgB (.slice none 0 0)))
          clear ho4 hb4 hs4 hF hgz hown hStk hfn hK hg2 HF2 hrow
          go_wp2_with fail
          first | go_end0 | skip
          rw [HE.out]
          generalize hW9 : World.setCell (World.setCell (World.setCell (World.setCell (World.setCell (World.setCell (World.setCell (World.setCell (World.setCell (World.setCell (World.setCell (World.setCell (World.setCell (World.setCell W2 _ _) _ _) _ _) _ _) _ _) _ _) _ _) _ _) _ _) _ _) _ _) _ _) _ _) _ _ = W9 at hg4 hB4 ⊢
          exact ⟨rfl, hB4.out.trans ((Sl.drew W9).below B), _, _, ⟨_, _, _, _, (hg4.out.same ((Sl.drew W9).same (fun _ => True) _) (fun _ _ _ => trivial) (Nat.le_refl q)).more (by omega)⟩, rfl, rfl⟩
    · have e4 : ((s.top.kind : Int) == 4) = false := beq_eq_false_iff_ne.2 (by omega)
      have e4n : ((s.top.kind : Int) != 4) = true := by simp only [bne, e4]; rfl
      cases he : s.top.els with
      | true =>
        rw [he] at p9
        have HE := Lib.hid (HE0.out.trans (else_err s at_ (by rcases hkd.2 ⟨k3, k4⟩ with h | h; exact .inl h; exact .inr (.inl h))))
        clear HE0 hkd
        go_wp2_with fail
        all_goals
          refine FC.out.mono ?_
          rintro e w4 ⟨rfl, hb4, hs4, hg4⟩
          have HB4 := Lib.hid (HBA.out.trans hb4)
          have HG4 := Lib.hid hg4
          clear hb4 hs4 hg4 FC
          go_wp2_with fail
          first | go_end0 | skip
          rw [HE.out]
          exact ⟨rfl, HB4.out, s, (192, at_), ⟨_, _, _, _, HG4.out.more (by omega)⟩, by decide, rfl⟩
      | false =>
        rw [he] at p9
        have HE := Lib.hid (HE0.out.trans (else_err s at_ (by rcases hkd.2 ⟨k3, k4⟩ with h | h; exact .inl h; exact .inr (.inl h))))
        clear HE0 hkd
        go_wp2_with fail
        all_goals
          refine FC.out.mono ?_
          rintro e w4 ⟨rfl, hb4, hs4, hg4⟩
          have HB4 := Lib.hid (HBA.out.trans hb4)
          have HG4 := Lib.hid hg4
          clear hb4 hs4 hg4 FC
          go_wp2_with fail
          first | go_end0 | skip
          rw [HE.out]
          exact ⟨rfl, HB4.out, s, (192, at_), ⟨_, _, _, _, HG4.out.more (by omega)⟩, by decide, rfl⟩
end Go.Proofs.YtdgcdjpjnhlihaaGreatDoor
