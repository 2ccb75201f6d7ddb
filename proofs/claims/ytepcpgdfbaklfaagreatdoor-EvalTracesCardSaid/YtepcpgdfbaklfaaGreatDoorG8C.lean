/- The contract of runner.part at a call, out of that of runner.parts. No condition but the run's form in memory. -/
import Derived.Test.YtepcpgdfbaklfaaGreatDoorG5C
import Derived.StillTailTactics
set_option linter.unusedSimpArgs false
set_option linter.unusedVariables false
namespace Go.Proofs.YtepcpgdfbaklfaaGreatDoor
open Go.RowKit Go.Shelf Ev
attribute [local go_sem ↓] Go.wp_at_zero Go.wp_at_succ
theorem set15 {w : World} {g : Nat} {y0 y1 y2 y3 y4 y5 y6 y7 y8 y9 y10 y11 y12 y13 y14 : Value} (x0 x1 x2 x3 x4 x5 x6 x7 x8 x9 x10 x11 x12 x13 x14 : Value) (c0 : w.cell? ⟨g, 0, none⟩ = some y0) (c1 : w.cell? ⟨g, 1, none⟩ = some y1) (c2 : w.cell? ⟨g, 2, none⟩ = some y2) (c3 : w.cell? ⟨g, 3, none⟩ = some y3) (c4 : w.cell? ⟨g, 4, none⟩ = some y4) (c5 : w.cell? ⟨g, 5, none⟩ = some y5) (c6 : w.cell? ⟨g, 6, none⟩ = some y6) (c7 : w.cell? ⟨g, 7, none⟩ = some y7) (c8 : w.cell? ⟨g, 8, none⟩ = some y8) (c9 : w.cell? ⟨g, 9, none⟩ = some y9) (c10 : w.cell? ⟨g, 10, none⟩ = some y10) (c11 : w.cell? ⟨g, 11, none⟩ = some y11) (c12 : w.cell? ⟨g, 12, none⟩ = some y12) (c13 : w.cell? ⟨g, 13, none⟩ = some y13) (c14 : w.cell? ⟨g, 14, none⟩ = some y14) :
 Stored w (((((((((((((((w.setCell ⟨g, 0, none⟩ x0).setCell ⟨g, 1, none⟩ x1).setCell ⟨g, 2, none⟩ x2).setCell ⟨g, 3, none⟩ x3).setCell ⟨g, 4, none⟩ x4).setCell ⟨g, 5, none⟩ x5).setCell ⟨g, 6, none⟩ x6).setCell ⟨g, 7, none⟩ x7).setCell ⟨g, 8, none⟩ x8).setCell ⟨g, 9, none⟩ x9).setCell ⟨g, 10, none⟩ x10).setCell ⟨g, 11, none⟩ x11).setCell ⟨g, 12, none⟩ x12).setCell ⟨g, 13, none⟩ x13).setCell ⟨g, 14, none⟩ x14) g 0 15 [x0, x1, x2, x3, x4, x5, x6, x7, x8, x9, x10, x11, x12, x13, x14] := by
 have h := ((((((((((((((((Stored.nil w g 0).snoc x0 c0).snoc x1 c1).snoc x2 c2).snoc x3 c3).snoc x4 c4).snoc x5 c5).snoc x6 c6).snoc x7 c7).snoc x8 c8).snoc x9 c9).snoc x10 c10).snoc x11 c11).snoc x12 c12).snoc x13 c13).snoc x14 c14)
 simpa using h
theorem run_set2 {P deep rb : Nat} {dot root : Va} {a1 a2 a3 a4 : Option Addr} {c1 c2 c3 c4 : Nat} {w : World} (h : w.heap[P]? = some (.cells (runCells dot root a1 a2 a3 a4 c1 c2 c3 c4 deep rb) 120 (0, 0))) (x : Va) (b1 b2 : Option Addr) (d1 d2 : Nat) :
 (((((((((((((((w.setCell ⟨P, 0, none⟩ (.int .u8 (x.h.kind : Nat))).setCell ⟨P, 1, none⟩ (.bool x.h.b)).setCell ⟨P, 2, none⟩ (.int .i64 x.h.n)).setCell ⟨P, 3, none⟩ (.int .u64 (x.h.bits : Nat))).setCell ⟨P, 4, none⟩ (.string x.h.text)).setCell ⟨P, 5, none⟩ (.slice b1 x.h.keys.length d1)).setCell ⟨P, 6, none⟩ (.slice b2 x.items.len d2)).setCell ⟨P, 7, none⟩ (.int .u8 (x.h.kind : Nat))).setCell ⟨P, 8, none⟩ (.bool x.h.b)).setCell ⟨P, 9, none⟩ (.int .i64 x.h.n)).setCell ⟨P, 10, none⟩ (.int .u64 (x.h.bits : Nat))).setCell ⟨P, 11, none⟩ (.string x.h.text)).setCell ⟨P, 12, none⟩ (.slice b1 x.h.keys.length d1)).setCell ⟨P, 13, none⟩ (.slice b2 x.items.len d2)).setCell ⟨P, 14, none⟩ (.int .i64 ((deep : Int) + 1))).heap[P]? = some (.cells (runCells x x b1 b2 b1 b2 d1 d2 d1 d2 (deep + 1) rb) 120 (0, 0)) := by
 have h0 : (w.setCell ⟨P, 0, none⟩ (.int .u8 (x.h.kind : Nat))).heap[P]? = some (.cells #[.int .u8 (x.h.kind : Nat), .bool dot.h.b, .int .i64 dot.h.n, .int .u64 (dot.h.bits : Nat), .string dot.h.text, .slice a1 dot.h.keys.length c1, .slice a2 dot.items.len c2, .int .u8 (root.h.kind : Nat), .bool root.h.b, .int .i64 root.h.n, .int .u64 (root.h.bits : Nat), .string root.h.text, .slice a3 root.h.keys.length c3, .slice a4 root.items.len c4, .int .i64 (deep : Nat), .pointer (some ⟨rb, 0, none⟩)] 120 (0, 0)) := set_cells (j := 0) h _
 have h1 : ((w.setCell ⟨P, 0, none⟩ (.int .u8 (x.h.kind : Nat))).setCell ⟨P, 1, none⟩ (.bool x.h.b)).heap[P]? = some (.cells #[.int .u8 (x.h.kind : Nat), .bool x.h.b, .int .i64 dot.h.n, .int .u64 (dot.h.bits : Nat), .string dot.h.text, .slice a1 dot.h.keys.length c1, .slice a2 dot.items.len c2, .int .u8 (root.h.kind : Nat), .bool root.h.b, .int .i64 root.h.n, .int .u64 (root.h.bits : Nat), .string root.h.text, .slice a3 root.h.keys.length c3, .slice a4 root.items.len c4, .int .i64 (deep : Nat), .pointer (some ⟨rb, 0, none⟩)] 120 (0, 0)) := set_cells (j := 1) h0 _
 have h2 : (((w.setCell ⟨P, 0, none⟩ (.int .u8 (x.h.kind : Nat))).setCell ⟨P, 1, none⟩ (.bool x.h.b)).setCell ⟨P, 2, none⟩ (.int .i64 x.h.n)).heap[P]? = some (.cells #[.int .u8 (x.h.kind : Nat), .bool x.h.b, .int .i64 x.h.n, .int .u64 (dot.h.bits : Nat), .string dot.h.text, .slice a1 dot.h.keys.length c1, .slice a2 dot.items.len c2, .int .u8 (root.h.kind : Nat), .bool root.h.b, .int .i64 root.h.n, .int .u64 (root.h.bits : Nat), .string root.h.text, .slice a3 root.h.keys.length c3, .slice a4 root.items.len c4, .int .i64 (deep : Nat), .pointer (some ⟨rb, 0, none⟩)] 120 (0, 0)) := set_cells (j := 2) h1 _
 have h3 : ((((w.setCell ⟨P, 0, none⟩ (.int .u8 (x.h.kind : Nat))).setCell ⟨P, 1, none⟩ (.bool x.h.b)).setCell ⟨P, 2, none⟩ (.int .i64 x.h.n)).setCell ⟨P, 3, none⟩ (.int .u64 (x.h.bits : Nat))).heap[P]? = some (.cells #[.int .u8 (x.h.kind : Nat), .bool x.h.b, .int .i64 x.h.n, .int .u64 (x.h.bits : Nat), .string dot.h.text, .slice a1 dot.h.keys.length c1, .slice a2 dot.items.len c2, .int .u8 (root.h.kind : Nat), .bool root.h.b, .int .i64 root.h.n, .int .u64 (root.h.bits : Nat), .string root.h.text, .slice a3 root.h.keys.length c3, .slice a4 root.items.len c4, .int .i64 (deep : Nat), .pointer (some ⟨rb, 0, none⟩)] 120 (0, 0)) := set_cells (j := 3) h2 _
 have h4 : (((((w.setCell ⟨P, 0, none⟩ (.int .u8 (x.h.kind : Nat))).setCell ⟨P, 1, none⟩ (.bool x.h.b)).setCell ⟨P, 2, none⟩ (.int .i64 x.h.n)).setCell ⟨P, 3, none⟩ (.int .u64 (x.h.bits : Nat))).setCell ⟨P, 4, none⟩ (.string x.h.text)).heap[P]? = some (.cells #[.int .u8 (x.h.kind : Nat), .bool x.h.b, .int .i64 x.h.n, .int .u64 (x.h.bits : Nat), .string x.h.text, .slice a1 dot.h.keys.length c1, .slice a2 dot.items.len c2, .int .u8 (root.h.kind : Nat), .bool root.h.b, .int .i64 root.h.n, .int .u64 (root.h.bits : Nat), .string root.h.text, .slice a3 root.h.keys.length c3, .slice a4 root.items.len c4, .int .i64 (deep : Nat), .pointer (some ⟨rb, 0, none⟩)] 120 (0, 0)) := set_cells (j := 4) h3 _
 have h5 : ((((((w.setCell ⟨P, 0, none⟩ (.int .u8 (x.h.kind : Nat))).setCell ⟨P, 1, none⟩ (.bool x.h.b)).setCell ⟨P, 2, none⟩ (.int .i64 x.h.n)).setCell ⟨P, 3, none⟩ (.int .u64 (x.h.bits : Nat))).setCell ⟨P, 4, none⟩ (.string x.h.text)).setCell ⟨P, 5, none⟩ (.slice b1 x.h.keys.length d1)).heap[P]? = some (.cells #[.int .u8 (x.h.kind : Nat), .bool x.h.b, .int .i64 x.h.n, .int .u64 (x.h.bits : Nat), .string x.h.text, .slice b1 x.h.keys.length d1, .slice a2 dot.items.len c2, .int .u8 (root.h.kind : Nat), .bool root.h.b, .int .i64 root.h.n, .int .u64 (root.h.bits : Nat), .string root.h.text, .slice a3 root.h.keys.length c3, .slice a4 root.items.len c4, .int .i64 (deep : Nat), .pointer (some ⟨rb, 0, none⟩)] 120 (0, 0)) := set_cells (j := 5) h4 _
 have h6 : (((((((w.setCell ⟨P, 0, none⟩ (.int .u8 (x.h.kind : Nat))).setCell ⟨P, 1, none⟩ (.bool x.h.b)).setCell ⟨P, 2, none⟩ (.int .i64 x.h.n)).setCell ⟨P, 3, none⟩ (.int .u64 (x.h.bits : Nat))).setCell ⟨P, 4, none⟩ (.string x.h.text)).setCell ⟨P, 5, none⟩ (.slice b1 x.h.keys.length d1)).setCell ⟨P, 6, none⟩ (.slice b2 x.items.len d2)).heap[P]? = some (.cells #[.int .u8 (x.h.kind : Nat), .bool x.h.b, .int .i64 x.h.n, .int .u64 (x.h.bits : Nat), .string x.h.text, .slice b1 x.h.keys.length d1, .slice b2 x.items.len d2, .int .u8 (root.h.kind : Nat), .bool root.h.b, .int .i64 root.h.n, .int .u64 (root.h.bits : Nat), .string root.h.text, .slice a3 root.h.keys.length c3, .slice a4 root.items.len c4, .int .i64 (deep : Nat), .pointer (some ⟨rb, 0, none⟩)] 120 (0, 0)) := set_cells (j := 6) h5 _
 have h7 : ((((((((w.setCell ⟨P, 0, none⟩ (.int .u8 (x.h.kind : Nat))).setCell ⟨P, 1, none⟩ (.bool x.h.b)).setCell ⟨P, 2, none⟩ (.int .i64 x.h.n)).setCell ⟨P, 3, none⟩ (.int .u64 (x.h.bits : Nat))).setCell ⟨P, 4, none⟩ (.string x.h.text)).setCell ⟨P, 5, none⟩ (.slice b1 x.h.keys.length d1)).setCell ⟨P, 6, none⟩ (.slice b2 x.items.len d2)).setCell ⟨P, 7, none⟩ (.int .u8 (x.h.kind : Nat))).heap[P]? = some (.cells #[.int .u8 (x.h.kind : Nat), .bool x.h.b, .int .i64 x.h.n, .int .u64 (x.h.bits : Nat), .string x.h.text, .slice b1 x.h.keys.length d1, .slice b2 x.items.len d2, .int .u8 (x.h.kind : Nat), .bool root.h.b, .int .i64 root.h.n, .int .u64 (root.h.bits : Nat), .string root.h.text, .slice a3 root.h.keys.length c3, .slice a4 root.items.len c4, .int .i64 (deep : Nat), .pointer (some ⟨rb, 0, none⟩)] 120 (0, 0)) := set_cells (j := 7) h6 _
 have h8 : (((((((((w.setCell ⟨P, 0, none⟩ (.int .u8 (x.h.kind : Nat))).setCell ⟨P, 1, none⟩ (.bool x.h.b)).setCell ⟨P, 2, none⟩ (.int .i64 x.h.n)).setCell ⟨P, 3, none⟩ (.int .u64 (x.h.bits : Nat))).setCell ⟨P, 4, none⟩ (.string x.h.text)).setCell ⟨P, 5, none⟩ (.slice b1 x.h.keys.length d1)).setCell ⟨P, 6, none⟩ (.slice b2 x.items.len d2)).setCell ⟨P, 7, none⟩ (.int .u8 (x.h.kind : Nat))).setCell ⟨P, 8, none⟩ (.bool x.h.b)).heap[P]? = some (.cells #[.int .u8 (x.h.kind : Nat), .bool x.h.b, .int .i64 x.h.n, .int .u64 (x.h.bits : Nat), .string x.h.text, .slice b1 x.h.keys.length d1, .slice b2 x.items.len d2, .int .u8 (x.h.kind : Nat), .bool x.h.b, .int .i64 root.h.n, .int .u64 (root.h.bits : Nat), .string root.h.text, .slice a3 root.h.keys.length c3, .slice a4 root.items.len c4, .int .i64 (deep : Nat), .pointer (some ⟨rb, 0, none⟩)] 120 (0, 0)) := set_cells (j := 8) h7 _
 have h9 : ((((((((((w.setCell ⟨P, 0, none⟩ (.int .u8 (x.h.kind : Nat))).setCell ⟨P, 1, none⟩ (.bool x.h.b)).setCell ⟨P, 2, none⟩ (.int .i64 x.h.n)).setCell ⟨P, 3, none⟩ (.int .u64 (x.h.bits : Nat))).setCell ⟨P, 4, none⟩ (.string x.h.text)).setCell ⟨P, 5, none⟩ (.slice b1 x.h.keys.length d1)).setCell ⟨P, 6, none⟩ (.slice b2 x.items.len d2)).setCell ⟨P, 7, none⟩ (.int .u8 (x.h.kind : Nat))).setCell ⟨P, 8, none⟩ (.bool x.h.b)).setCell ⟨P, 9, none⟩ (.int .i64 x.h.n)).heap[P]? = some (.cells #[.int .u8 (x.h.kind : Nat), .bool x.h.b, .int .i64 x.h.n, .int .u64 (x.h.bits : Nat), .string x.h.text, .slice b1 x.h.keys.length d1, .slice b2 x.items.len d2, .int .u8 (x.h.kind : Nat), .bool x.h.b, .int .i64 x.h.n, .int .u64 (root.h.bits : Nat), .string root.h.text, .slice a3 root.h.keys.length c3, .slice a4 root.items.len c4, .int .i64 (deep : Nat), .pointer (some ⟨rb, 0, none⟩)] 120 (0, 0)) := set_cells (j := 9) h8 _
 have h10 : (((((((((((w.setCell ⟨P, 0, none⟩ (.int .u8 (x.h.kind : Nat))).setCell ⟨P, 1, none⟩ (.bool x.h.b)).setCell ⟨P, 2, none⟩ (.int .i64 x.h.n)).setCell ⟨P, 3, none⟩ (.int .u64 (x.h.bits : Nat))).setCell ⟨P, 4, none⟩ (.string x.h.text)).setCell ⟨P, 5, none⟩ (.slice b1 x.h.keys.length d1)).setCell ⟨P, 6, none⟩ (.slice b2 x.items.len d2)).setCell ⟨P, 7, none⟩ (.int .u8 (x.h.kind : Nat))).setCell ⟨P, 8, none⟩ (.bool x.h.b)).setCell ⟨P, 9, none⟩ (.int .i64 x.h.n)).setCell ⟨P, 10, none⟩ (.int .u64 (x.h.bits : Nat))).heap[P]? = some (.cells #[.int .u8 (x.h.kind : Nat), .bool x.h.b, .int .i64 x.h.n, .int .u64 (x.h.bits : Nat), .string x.h.text, .slice b1 x.h.keys.length d1, .slice b2 x.items.len d2, .int .u8 (x.h.kind : Nat), .bool x.h.b, .int .i64 x.h.n, .int .u64 (x.h.bits : Nat), .string root.h.text, .slice a3 root.h.keys.length c3, .slice a4 root.items.len c4, .int .i64 (deep : Nat), .pointer (some ⟨rb, 0, none⟩)] 120 (0, 0)) := set_cells (j := 10) h9 _
 have h11 : ((((((((((((w.setCell ⟨P, 0, none⟩ (.int .u8 (x.h.kind : Nat))).setCell ⟨P, 1, none⟩ (.bool x.h.b)).setCell ⟨P, 2, none⟩ (.int .i64 x.h.n)).setCell ⟨P, 3, none⟩ (.int .u64 (x.h.bits : Nat))).setCell ⟨P, 4, none⟩ (.string x.h.text)).setCell ⟨P, 5, none⟩ (.slice b1 x.h.keys.length d1)).setCell ⟨P, 6, none⟩ (.slice b2 x.items.len d2)).setCell ⟨P, 7, none⟩ (.int .u8 (x.h.kind : Nat))).setCell ⟨P, 8, none⟩ (.bool x.h.b)).setCell ⟨P, 9, none⟩ (.int .i64 x.h.n)).setCell ⟨P, 10, none⟩ (.int .u64 (x.h.bits : Nat))).setCell ⟨P, 11, none⟩ (.string x.h.text)).heap[P]? = some (.cells #[.int .u8 (x.h.kind : Nat), .bool x.h.b, .int .i64 x.h.n, .int .u64 (x.h.bits : Nat), .string x.h.text, .slice b1 x.h.keys.length d1, .slice b2 x.items.len d2, .int .u8 (x.h.kind : Nat), .bool x.h.b, .int .i64 x.h.n, .int .u64 (x.h.bits : Nat), .string x.h.text, .slice a3 root.h.keys.length c3, .slice a4 root.items.len c4, .int .i64 (deep : Nat), .pointer (some ⟨rb, 0, none⟩)] 120 (0, 0)) := set_cells (j := 11) h10 _
 have h12 : (((((((((((((w.setCell ⟨P, 0, none⟩ (.int .u8 (x.h.kind : Nat))).setCell ⟨P, 1, none⟩ (.bool x.h.b)).setCell ⟨P, 2, none⟩ (.int .i64 x.h.n)).setCell ⟨P, 3, none⟩ (.int .u64 (x.h.bits : Nat))).setCell ⟨P, 4, none⟩ (.string x.h.text)).setCell ⟨P, 5, none⟩ (.slice b1 x.h.keys.length d1)).setCell ⟨P, 6, none⟩ (.slice b2 x.items.len d2)).setCell ⟨P, 7, none⟩ (.int .u8 (x.h.kind : Nat))).setCell ⟨P, 8, none⟩ (.bool x.h.b)).setCell ⟨P, 9, none⟩ (.int .i64 x.h.n)).setCell ⟨P, 10, none⟩ (.int .u64 (x.h.bits : Nat))).setCell ⟨P, 11, none⟩ (.string x.h.text)).setCell ⟨P, 12, none⟩ (.slice b1 x.h.keys.length d1)).heap[P]? = some (.cells #[.int .u8 (x.h.kind : Nat), .bool x.h.b, .int .i64 x.h.n, .int .u64 (x.h.bits : Nat), .string x.h.text, .slice b1 x.h.keys.length d1, .slice b2 x.items.len d2, .int .u8 (x.h.kind : Nat), .bool x.h.b, .int .i64 x.h.n, .int .u64 (x.h.bits : Nat), .string x.h.text, .slice b1 x.h.keys.length d1, .slice a4 root.items.len c4, .int .i64 (deep : Nat), .pointer (some ⟨rb, 0, none⟩)] 120 (0, 0)) := set_cells (j := 12) h11 _
 have h13 : ((((((((((((((w.setCell ⟨P, 0, none⟩ (.int .u8 (x.h.kind : Nat))).setCell ⟨P, 1, none⟩ (.bool x.h.b)).setCell ⟨P, 2, none⟩ (.int .i64 x.h.n)).setCell ⟨P, 3, none⟩ (.int .u64 (x.h.bits : Nat))).setCell ⟨P, 4, none⟩ (.string x.h.text)).setCell ⟨P, 5, none⟩ (.slice b1 x.h.keys.length d1)).setCell ⟨P, 6, none⟩ (.slice b2 x.items.len d2)).setCell ⟨P, 7, none⟩ (.int .u8 (x.h.kind : Nat))).setCell ⟨P, 8, none⟩ (.bool x.h.b)).setCell ⟨P, 9, none⟩ (.int .i64 x.h.n)).setCell ⟨P, 10, none⟩ (.int .u64 (x.h.bits : Nat))).setCell ⟨P, 11, none⟩ (.string x.h.text)).setCell ⟨P, 12, none⟩ (.slice b1 x.h.keys.length d1)).setCell ⟨P, 13, none⟩ (.slice b2 x.items.len d2)).heap[P]? = some (.cells #[.int .u8 (x.h.kind : Nat), .bool x.h.b, .int .i64 x.h.n, .int .u64 (x.h.bits : Nat), .string x.h.text, .slice b1 x.h.keys.length d1, .slice b2 x.items.len d2, .int .u8 (x.h.kind : Nat), .bool x.h.b, .int .i64 x.h.n, .int .u64 (x.h.bits : Nat), .string x.h.text, .slice b1 x.h.keys.length d1, .slice b2 x.items.len d2, .int .i64 (deep : Nat), .pointer (some ⟨rb, 0, none⟩)] 120 (0, 0)) := set_cells (j := 13) h12 _
 have h14 : (((((((((((((((w.setCell ⟨P, 0, none⟩ (.int .u8 (x.h.kind : Nat))).setCell ⟨P, 1, none⟩ (.bool x.h.b)).setCell ⟨P, 2, none⟩ (.int .i64 x.h.n)).setCell ⟨P, 3, none⟩ (.int .u64 (x.h.bits : Nat))).setCell ⟨P, 4, none⟩ (.string x.h.text)).setCell ⟨P, 5, none⟩ (.slice b1 x.h.keys.length d1)).setCell ⟨P, 6, none⟩ (.slice b2 x.items.len d2)).setCell ⟨P, 7, none⟩ (.int .u8 (x.h.kind : Nat))).setCell ⟨P, 8, none⟩ (.bool x.h.b)).setCell ⟨P, 9, none⟩ (.int .i64 x.h.n)).setCell ⟨P, 10, none⟩ (.int .u64 (x.h.bits : Nat))).setCell ⟨P, 11, none⟩ (.string x.h.text)).setCell ⟨P, 12, none⟩ (.slice b1 x.h.keys.length d1)).setCell ⟨P, 13, none⟩ (.slice b2 x.items.len d2)).setCell ⟨P, 14, none⟩ (.int .i64 ((deep : Int) + 1))).heap[P]? = some (.cells #[.int .u8 (x.h.kind : Nat), .bool x.h.b, .int .i64 x.h.n, .int .u64 (x.h.bits : Nat), .string x.h.text, .slice b1 x.h.keys.length d1, .slice b2 x.items.len d2, .int .u8 (x.h.kind : Nat), .bool x.h.b, .int .i64 x.h.n, .int .u64 (x.h.bits : Nat), .string x.h.text, .slice b1 x.h.keys.length d1, .slice b2 x.items.len d2, .int .i64 ((deep : Int) + 1), .pointer (some ⟨rb, 0, none⟩)] 120 (0, 0)) := set_cells (j := 14) h13 _
 exact h14
theorem MapD.look2 {D : ByteArray → Pt} {ok : Nat → Prop} {mb : Nat} {W : World} (h : MapD D ok mb W) (n : ByteArray) :
 ∃ a c, (Instr.lookup 113 (.map (some mb)) (.string n) false).run Tryz.prog W = .ok (.slice a (D n).len c) W ∧ (Instr.lookup 113 (.map (some mb)) (.string n) false).run Tryz.prog W.drew = .ok (.slice a (D n).len c) W.drew ∧ Parts ok W (.slice a (D n).len c) (D n) := by
 obtain ⟨es, clock, h1, h2⟩ := h
 have h1' : W.drew.heap[mb]? = some (.map es clock) := h1
 rcases h2 n with ⟨i, a, c, h3, h4⟩ | ⟨h3, h4⟩
 · refine ⟨a, c, ?_, ?_, h4⟩
   · have := run_look (P := Tryz.prog) 113 9 22 mb clock es n i _ false Tryz.underlying113 Tryz.underlying9 h1 h3
     simpa using this
   · have := run_look (P := Tryz.prog) 113 9 22 mb clock es n i _ false Tryz.underlying113 Tryz.underlying9 h1' h3
     simpa using this
 · rw [h4]
   refine ⟨none, 0, ?_, ?_, Parts.nil _ _⟩
   · have := run_look_none (P := Tryz.prog) 113 9 22 mb clock es n _ false Tryz.underlying113 Tryz.underlying9 h1 h3 (zero_parts W)
     simp at this
     exact this
   · have := run_look_none (P := Tryz.prog) 113 9 22 mb clock es n _ false Tryz.underlying113 Tryz.underlying9 h1' h3 (zero_parts W.drew)
     simp at this
     exact this
def callF (D : ByteArray → Pt) (C n : Nat) (dot root : Va) (deep : Nat) (h : Hd) (f : Nat) : Ev.Rs := match getF h.names (if h.root then root else dot) with
 | .error y => ⟨[], f, some (y, h.pos)⟩
 | .ok v => if deep = C then ⟨[], f, some (203, h.pos)⟩ else listF (evF D C n v v (deep + 1)) (D h.name) f
set_option maxRecDepth 100000 in
set_option maxHeartbeats 40000000 in
theorem part_call (D : ByteArray → Pt) (C l rb mb : Nat) (J : (Nat → Prop) → List It → World → Prop) (HJ : Lies J) (n : Nat) (hp : PartsSaid D C l rb mb J n) (dot root : Va) (h : Hd) (kd el : Pt) (deep f : Nat) (S : Nat → Prop) (pre : List It) (W : World) (a1 a2 a3 a4 an ak ae : Option Addr) (c1 c2 c3 c4 cn ck ce : Nat) (hfn : f ≤ n) (hcap : pre.length + (f + 1) ≤ 1000000) (hdc : deep ≤ C) (hsh : h.sm) (hsk : kd.sm) (hse : el.sm) (hck : kd.cnt ≤ 16777216) (hce : el.cnt ≤ 16777216) (hrun : RunA D C l rb mb S (f + 1) W) (hJ : J S pre W) (hok : Okd S rb W dot root a1 a2 a3 a4 c1 c2 c3 c4) (hst : Strs (okS S rb W) W (.slice an h.names.length cn) h.names) (hk : Parts (okS S rb W) W (.slice ak kd.len ck) kd) (he : Parts (okS S rb W) W (.slice ae el.len ce) el) (hk0 : h.kind = 0 ∨ 4 < h.kind) :
 Calls Tryz.prog 91 #[.agg #[.int .u8 (dot.h.kind : Nat), .bool dot.h.b, .int .i64 dot.h.n, .int .u64 (dot.h.bits : Nat), .string dot.h.text, .slice a1 dot.h.keys.length c1, .slice a2 dot.items.len c2, .int .u8 (root.h.kind : Nat), .bool root.h.b, .int .i64 root.h.n, .int .u64 (root.h.bits : Nat), .string root.h.text, .slice a3 root.h.keys.length c3, .slice a4 root.items.len c4, .int .i64 (deep : Nat), .pointer (some ⟨rb, 0, none⟩)], .agg #[.int .u8 (h.kind : Nat), .int .i64 h.pos, .string h.text, .bool h.root, .slice an h.names.length cn, .string h.name, .slice ak kd.len ck, .slice ae el.len ce]] W (EvP C l rb mb J (callF D C n dot root deep h f) S pre W) := by
 have HP := Lib.hid hp
 clear hp
 have j1 : ((h.kind : Int) == 1) = false := beq_eq_false_iff_ne.2 (by omega)
 have j2 : ((h.kind : Int) == 2) = false := beq_eq_false_iff_ne.2 (by omega)
 have j3 : ((h.kind : Int) == 3) = false := beq_eq_false_iff_ne.2 (by omega)
 have j4 : ((h.kind : Int) == 4) = false := beq_eq_false_iff_ne.2 (by omega)
 clear hk0
 have HB0 : Hid (Below W.heap.size W ((W.alloc (.cells #[.int .u8 (dot.h.kind : Nat), .bool dot.h.b, .int .i64 dot.h.n, .int .u64 (dot.h.bits : Nat), .string dot.h.text, .slice a1 dot.h.keys.length c1, .slice a2 dot.items.len c2, .int .u8 (root.h.kind : Nat), .bool root.h.b, .int .i64 root.h.n, .int .u64 (root.h.bits : Nat), .string root.h.text, .slice a3 root.h.keys.length c3, .slice a4 root.items.len c4, .int .i64 (deep : Nat), .pointer (some ⟨rb, 0, none⟩)] 120)).alloc (.cells #[.int .u8 (h.kind : Nat), .int .i64 h.pos, .string h.text, .bool h.root, .slice an h.names.length cn, .string h.name, .slice ak kd.len ck, .slice ae el.len ce] 56))) := (((Below.refl _ W).alloc (Nat.le_refl _) _).alloc (by simp) _)
 have HS0 : Hid (((W.alloc (.cells #[.int .u8 (dot.h.kind : Nat), .bool dot.h.b, .int .i64 dot.h.n, .int .u64 (dot.h.bits : Nat), .string dot.h.text, .slice a1 dot.h.keys.length c1, .slice a2 dot.items.len c2, .int .u8 (root.h.kind : Nat), .bool root.h.b, .int .i64 root.h.n, .int .u64 (root.h.bits : Nat), .string root.h.text, .slice a3 root.h.keys.length c3, .slice a4 root.items.len c4, .int .i64 (deep : Nat), .pointer (some ⟨rb, 0, none⟩)] 120)).alloc (.cells #[.int .u8 (h.kind : Nat), .int .i64 h.pos, .string h.text, .bool h.root, .slice an h.names.length cn, .string h.name, .slice ak kd.len ck, .slice ae el.len ce] 56)).heap.size = W.heap.size + 2) := by unfold Hid; simp
 have HT : Hid (∀ W0, ((W.alloc (.cells #[.int .u8 (dot.h.kind : Nat), .bool dot.h.b, .int .i64 dot.h.n, .int .u64 (dot.h.bits : Nat), .string dot.h.text, .slice a1 dot.h.keys.length c1, .slice a2 dot.items.len c2, .int .u8 (root.h.kind : Nat), .bool root.h.b, .int .i64 root.h.n, .int .u64 (root.h.bits : Nat), .string root.h.text, .slice a3 root.h.keys.length c3, .slice a4 root.items.len c4, .int .i64 (deep : Nat), .pointer (some ⟨rb, 0, none⟩)] 120)).alloc (.cells #[.int .u8 (h.kind : Nat), .int .i64 h.pos, .string h.text, .bool h.root, .slice an h.names.length cn, .string h.name, .slice ak kd.len ck, .slice ae el.len ce] 56)) = W0 → W0.heap[W.heap.size]? = some (.cells #[.int .u8 (dot.h.kind : Nat), .bool dot.h.b, .int .i64 dot.h.n, .int .u64 (dot.h.bits : Nat), .string dot.h.text, .slice a1 dot.h.keys.length c1, .slice a2 dot.items.len c2, .int .u8 (root.h.kind : Nat), .bool root.h.b, .int .i64 root.h.n, .int .u64 (root.h.bits : Nat), .string root.h.text, .slice a3 root.h.keys.length c3, .slice a4 root.items.len c4, .int .i64 (deep : Nat), .pointer (some ⟨rb, 0, none⟩)] 120 (0, 0)) ∧ W0.heap[W.heap.size + 1]? = some (.cells #[.int .u8 (h.kind : Nat), .int .i64 h.pos, .string h.text, .bool h.root, .slice an h.names.length cn, .string h.name, .slice ak kd.len ck, .slice ae el.len ce] 56 (0, 0))) := by
  rintro W0 rfl
  have s1 : (W.alloc (.cells #[.int .u8 (dot.h.kind : Nat), .bool dot.h.b, .int .i64 dot.h.n, .int .u64 (dot.h.bits : Nat), .string dot.h.text, .slice a1 dot.h.keys.length c1, .slice a2 dot.items.len c2, .int .u8 (root.h.kind : Nat), .bool root.h.b, .int .i64 root.h.n, .int .u64 (root.h.bits : Nat), .string root.h.text, .slice a3 root.h.keys.length c3, .slice a4 root.items.len c4, .int .i64 (deep : Nat), .pointer (some ⟨rb, 0, none⟩)] 120 (0, 0))).heap.size = W.heap.size + 1 := by simp
  refine ⟨?_, ?_⟩
  · rw [Below.heap_alloc _ _ _ (by omega)]
    exact heap_alloc_new W _
  · skip
    have := heap_alloc_new (W.alloc (.cells #[.int .u8 (dot.h.kind : Nat), .bool dot.h.b, .int .i64 dot.h.n, .int .u64 (dot.h.bits : Nat), .string dot.h.text, .slice a1 dot.h.keys.length c1, .slice a2 dot.items.len c2, .int .u8 (root.h.kind : Nat), .bool root.h.b, .int .i64 root.h.n, .int .u64 (root.h.bits : Nat), .string root.h.text, .slice a3 root.h.keys.length c3, .slice a4 root.items.len c4, .int .i64 (deep : Nat), .pointer (some ⟨rb, 0, none⟩)] 120 (0, 0))) (.cells #[.int .u8 (h.kind : Nat), .int .i64 h.pos, .string h.text, .bool h.root, .slice an h.names.length cn, .string h.name, .slice ak kd.len ck, .slice ae el.len ce] 56 (0, 0)); rwa [s1] at this
 have hst0 := hrun.stp HB0.out
 have HST0 := Lib.hid hst0
 have HRUN0 := Lib.hid (hrun.below HB0.out)
 have HJ0 := Lib.hid (HJ _ _ _ _ hJ (off_below hrun.lt HB0.out))
 have HJJ := Lib.hid HJ
 have HRUNW := Lib.hid hrun
 have HOKW := Lib.hid hok
 have HSTW := Lib.hid hst
 have HKDW := Lib.hid hk
 have HELW := Lib.hid he
 have HSH := Lib.hid hsh
 clear hst0 hrun hJ hok hst hk he HJ hsh
 go_enter Tryz.func91, Tryz.ntmps91
 go_upto_region 1 with (fail)
 try simp only [Nat.add_assoc, Nat.reduceAdd]
 generalize hWW : World.alloc (World.alloc W _) _ = W0 at *
 obtain ⟨hr0, hp0⟩ := HT.out W0 rfl
 clear hWW HT
 have hz0 : W0.heap.size = W.heap.size + 2 := HS0.out
 have HR0 := Lib.hid hr0
 have HP0 := Lib.hid hp0
 have BC : Hid (Calls Tryz.prog 129 #[.agg #[.int .u8 (dot.h.kind : Nat), .bool dot.h.b, .int .i64 dot.h.n, .int .u64 (dot.h.bits : Nat), .string dot.h.text, .slice a1 dot.h.keys.length c1, .slice a2 dot.items.len c2, .int .u8 (root.h.kind : Nat), .bool root.h.b, .int .i64 root.h.n, .int .u64 (root.h.bits : Nat), .string root.h.text, .slice a3 root.h.keys.length c3, .slice a4 root.items.len c4, .int .i64 (deep : Nat), .pointer (some ⟨rb, 0, none⟩)], .agg #[.int .u8 (h.kind : Nat), .int .i64 h.pos, .string h.text, .bool h.root, .slice an h.names.length cn, .string h.name, .slice ak kd.len ck, .slice ae el.len ce]] W0 (BuP mb C l rb h.pos W0 (f + 1))) :=
  burn_calls dot root h deep rb mb C l (f + 1) HRUN0.out.fl a1 a2 a3 a4 an ak ae c1 c2 c3 c4 cn kd.len ck el.len ce W0 HRUN0.out.rest
 obtain ⟨q0, q1, q2, q3, q4, q5, q6, q7, q8, q9, q10, q11, q12, q13, q14, q15⟩ := runCs (P := W.heap.size) (dot := dot) (root := root) (a1 := a1) (a2 := a2) (a3 := a3) (a4 := a4) (c1 := c1) (c2 := c2) (c3 := c3) (c4 := c4) (deep := deep) (rb := rb) hr0
 obtain ⟨p0, p1, p2, p3, p4, p5, p6, p7⟩ := pcCs (P := W.heap.size + 1) (h := h) hp0
 clear hr0 hp0
 go_wp2_with fail
 refine BC.out.mono ?_
 rintro e w1 ⟨rfl, hre1, hoff1⟩
 have hw1 := hoff1.size
 have HST1 := Lib.hid (HST0.out.trans (stp_burn HRUN0.out.lt hoff1))
 have HRUN1 : Hid (RunA D C l rb mb S f w1) := HRUN0.out.step (stp_burn HRUN0.out.lt hoff1) hre1 (Nat.le_succ f)
 have HJ1 := Lib.hid (HJJ.out _ _ _ _ HJ0.out (hoff1.mono fun b hb => ⟨HRUN0.out.lt b hb, fun e => HRUN0.out.rbS (by rw [← e]; exact hb)⟩))
 have hrl := lt_of_block HRUNW.out.rest
 have HR1 : Hid (w1.heap[W.heap.size]? = some (.cells (runCells dot root a1 a2 a3 a4 c1 c2 c3 c4 deep rb) 120 (0, 0))) := (hoff1.block _ ⟨by omega, by omega⟩).trans HR0.out
 have HP1 : Hid (w1.heap[W.heap.size + 1]? = some (.cells (pCells h (.slice an h.names.length cn) (.slice ak kd.len ck) (.slice ae el.len ce)) 56 (0, 0))) := (hoff1.block _ ⟨by omega, by omega⟩).trans HP0.out
 have HRX : Hid (okS S rb w1 W.heap.size) := HRUNW.out.new (Nat.le_refl _) (by omega)
 have HPX : Hid (okS S rb w1 (W.heap.size + 1)) := HRUNW.out.new (by omega) (by omega)
 have hz1 : W.heap.size + 2 ≤ w1.heap.size := by omega
 clear hre1 hoff1 BC q0 q1 q2 q3 q4 q5 q6 q7 q8 q9 q10 q11 q12 q13 q14 q15 p0 p1 p2 p3 p4 p5 p6 p7
 obtain ⟨p0, p1, p2, p3, p4, p5, p6, p7⟩ := pcCs HP1.out
 go_upto_region 13 with (fail)
 obtain ⟨q0, q1, q2, q3, q4, q5, q6, q7, q8, q9, q10, q11, q12, q13, q14, q15⟩ := runCs HR1.out
 have hsl : h.names.length ≤ 140737488351232 := by have := HSH.out.2.2.2.1; omega
 have HOK1 := Lib.hid (HOKW.out.step HST1.out)
 have SG : Hid (Calls Tryz.prog 130 #[(.agg #[.int .u8 (dot.h.kind : Nat), .bool dot.h.b, .int .i64 dot.h.n, .int .u64 (dot.h.bits : Nat), .string dot.h.text, .slice a1 dot.h.keys.length c1, .slice a2 dot.items.len c2, .int .u8 (root.h.kind : Nat), .bool root.h.b, .int .i64 root.h.n, .int .u64 (root.h.bits : Nat), .string root.h.text, .slice a3 root.h.keys.length c3, .slice a4 root.items.len c4]), (.agg #[.int .u8 (h.kind : Nat), .int .i64 h.pos, .string h.text, .bool h.root, .slice an h.names.length cn, .string h.name, .slice ak kd.len ck, .slice ae el.len ce])] w1 (SgP (getF h.names (if h.root then root else dot)) h.pos w1)) :=
  sget_calls dot root h HOK1.out.dsm HOK1.out.rsm hsl _ a1 a2 a3 a4 an ak ae c1 c2 c3 c4 cn kd.len ck el.len ce w1 HOK1.out.dot HOK1.out.root (HST1.out.strs HSTW.out)
 go_wp2_with fail
 refine SG.out.mono ?_
 rintro e w2 ⟨hb2, hres⟩
 obtain ⟨G, hG⟩ : ∃ G, getF h.names (if h.root then root else dot) = G := ⟨_, rfl⟩
 have HG := Lib.hid hG
 rw [hG] at hres
 clear hG
 have HB2 := Lib.hid hb2
 have hz2 : W.heap.size + 2 ≤ w2.heap.size := by have := hb2.size; omega
 have HST2 := Lib.hid (HST1.out.trans (HRUN1.out.stp hb2))
 have HRUN2 := Lib.hid (HRUN1.out.below hb2)
 have HJ2 := Lib.hid (HJJ.out _ _ _ _ HJ1.out (off_below HRUN1.out.lt hb2))
 have HR2 : Hid (w2.heap[W.heap.size]? = some (.cells (runCells dot root a1 a2 a3 a4 c1 c2 c3 c4 deep rb) 120 (0, 0))) := (hb2.block _ HRX.out.1).trans HR1.out
 have HP2 : Hid (w2.heap[W.heap.size + 1]? = some (.cells (pCells h (.slice an h.names.length cn) (.slice ak kd.len ck) (.slice ae el.len ce)) 56 (0, 0))) := (hb2.block _ HPX.out.1).trans HP1.out
 clear hb2 SG q0 q1 q2 q3 q4 q5 q6 q7 q8 q9 q10 q11 q12 q13 q14 q15 p0 p1 p2 p3 p4 p5 p6 p7
 cases G with
 | error y =>
   obtain rfl := hres
   have HEQ : Hid (callF D C n dot root deep h f = ⟨[], f, some (y, h.pos)⟩) := by unfold Hid callF; rw [HG.out]
   go_wp2_with fail
   rw [HEQ.out]
   exact ⟨rfl, S, [], by rw [List.append_nil]; exact HJ2.out, rfl, HST2.out, rfl⟩
 | ok x =>
   obtain ⟨b1, d1, b2, d2, rfl, hvs, hsx⟩ := hres
   have HVS := Lib.hid hvs
   have HSX := Lib.hid hsx
   clear hvs hsx
   have HEQ0 : Hid (callF D C n dot root deep h f = if deep = C then ⟨[], f, some (203, h.pos)⟩ else listF (evF D C n x x (deep + 1)) (D h.name) f) := by unfold Hid callF; rw [HG.out]
   have HA : Hid (Below w2.heap.size w2 (w2.alloc (.cells #[.int .u8 (x.h.kind : Nat), .bool x.h.b, .int .i64 x.h.n, .int .u64 (x.h.bits : Nat), .string x.h.text, .slice b1 x.h.keys.length d1, .slice b2 x.items.len d2] 31))) := (Below.refl _ w2).alloc (Nat.le_refl _) _
   have HAT : Hid ((w2.alloc (.cells #[.int .u8 (x.h.kind : Nat), .bool x.h.b, .int .i64 x.h.n, .int .u64 (x.h.bits : Nat), .string x.h.text, .slice b1 x.h.keys.length d1, .slice b2 x.items.len d2] 31)).heap[w2.heap.size]? = some (.cells (xCells x.h (.slice b1 x.h.keys.length d1) (.slice b2 x.items.len d2)) 31 (0, 0))) := heap_alloc_new w2 _
   go_upto_region 14 with (fail)
   generalize hWW : World.alloc w2 _ = w3 at *
   clear hWW
   have HR3 := Lib.hid ((HA.out.block _ (by omega)).trans HR2.out)
   have HP3 := Lib.hid ((HA.out.block _ (by omega)).trans HP2.out)
   have HRE3 : Hid (w3.heap[rb]? = some (restC mb f C l)) := (HA.out.block _ (lt_of_block HRUN2.out.rest)).trans HRUN2.out.rest
   obtain ⟨q0, q1, q2, q3, q4, q5, q6, q7, q8, q9, q10, q11, q12, q13, q14, q15⟩ := runCs HR3.out
   have r2 : w3.cell? ⟨rb, 2, none⟩ = some (.int .i64 (C : Nat)) := by rw [cell_of_heap' HRE3.out]; rfl
   go_quiet (fail)
   have hBd : Below w3.heap.size w3 (w3.drewN nq) := below_drewN (Below.refl _ _) _
   clear q0 q1 q2 q3 q4 q5 q6 q7 q8 q9 q10 q11 q12 q13 q14 q15 r2
   generalize World.drewN w3 nq = w4 at *
   have hB24 : Below w2.heap.size w2 w4 := HA.out.trans (hBd.mono HA.out.size)
   have hz4 : w2.heap.size < w4.heap.size := Nat.lt_of_lt_of_le (lt_of_block HAT.out) hBd.size
   have HST4 := Lib.hid (HST2.out.trans (HRUN2.out.stp hB24))
   have HRUN4 := Lib.hid (HRUN2.out.below hB24)
   have HJ4 := Lib.hid (HJJ.out _ _ _ _ HJ2.out (off_below HRUN2.out.lt hB24))
   have HR4 := Lib.hid ((hBd.block _ (lt_of_block HR3.out)).trans HR3.out)
   have HP4 := Lib.hid ((hBd.block _ (lt_of_block HP3.out)).trans HP3.out)
   have HAT4 := Lib.hid ((hBd.block _ (lt_of_block HAT.out)).trans HAT.out)
   have HV4 : Hid (ValS (fun b => okS S rb w4 b ∧ b ≠ W.heap.size) w4 x b1 d1 b2 d2) := (HVS.out.kept (fun b hb => hB24.block b hb.2.1)).mono (fun b hb => ⟨HRUN1.out.new hb.1 (by have := hb.2.1; omega), by have := hb.1; omega⟩)
   clear hB24 hBd HR3 HP3 HRE3 HA
   obtain ⟨p0, p1, p2, p3, p4, p5, p6, p7⟩ := pcCs HP4.out
   by_cases hdC : deep = C
   · have HEQ : Hid (callF D C n dot root deep h f = ⟨[], f, some (203, h.pos)⟩) := by unfold Hid; rw [HEQ0.out, if_pos hdC]
     have e1 : ((deep : Int) == (C : Int)) = true := by rw [hdC]; simp
     clear hdC
     go_wp2_with fail
     rw [HEQ.out]
     exact ⟨rfl, S, [], by rw [List.append_nil]; exact HJ4.out, rfl, HST4.out, rfl⟩
   · have HEQ : Hid (callF D C n dot root deep h f = listF (evF D C n x x (deep + 1)) (D h.name) f) := by unfold Hid; rw [HEQ0.out, if_neg hdC]
     have e1 : ((deep : Int) == (C : Int)) = false := beq_eq_false_iff_ne.2 (by omega)
     have e2 : ¬ (deep : Int) = (C : Int) := by omega
     have hd1 : deep + 1 ≤ C := by omega
     have hcl := HRUN4.out.cl
     have wr1 : IntKind.i64.wrap ((deep : Int) + 1) = ((deep + 1 : Nat) : Int) := by rw [IntWalk.i64_in _ ⟨by omega, by omega⟩]; omega
     clear hdC
     obtain ⟨q0, q1, q2, q3, q4, q5, q6, q7, q8, q9, q10, q11, q12, q13, q14, q15⟩ := runCs HR4.out
     obtain ⟨x0, x1, x2, x3, x4, x5, x6⟩ := xcCs HAT4.out
     have qf := frozen_cells HR4.out
     go_upto_region 18 with (fail)
     have HSTO := Lib.hid (set15 (.int .u8 (x.h.kind : Nat)) (.bool x.h.b) (.int .i64 x.h.n) (.int .u64 (x.h.bits : Nat)) (.string x.h.text) (.slice b1 x.h.keys.length d1) (.slice b2 x.items.len d2) (.int .u8 (x.h.kind : Nat)) (.bool x.h.b) (.int .i64 x.h.n) (.int .u64 (x.h.bits : Nat)) (.string x.h.text) (.slice b1 x.h.keys.length d1) (.slice b2 x.items.len d2) (.int .i64 ((deep : Int) + 1)) q0 q1 q2 q3 q4 q5 q6 q7 q8 q9 q10 q11 q12 q13 q14)
     have HB15 := Lib.hid (run_set2 HR4.out x b1 b2 d1 d2)
     generalize hWW : World.setCell _ _ _ = w5 at *
     clear hWW q0 q1 q2 q3 q4 q5 q6 q7 q8 q9 q10 q11 q12 q13 q14 q15 x0 x1 x2 x3 x4 x5 x6 qf p0 p1 p2 p3 p4 p5 p6 p7
     have hRr : W.heap.size ≠ rb := HRX.out.2.2
     have HSX5 := Lib.hid (StpX.set (rb := rb) HRUN4.out.lt HSTO.out)
     have HST5 := Lib.hid (StpX.old HST4.out HSX5.out (Nat.le_refl _))
     have HRE5 : Hid (w5.heap[rb]? = some (restC mb f C l)) := (HSTO.out.oth rb (fun e => hRr e.symm)).trans HRUN4.out.rest
     have HRUN5 : Hid (RunA D C l rb mb S f w5) := HRUNW.out.step HST5.out HRE5.out (Nat.le_succ f)
     have HJ5 := Lib.hid (HJJ.out _ _ _ _ HJ4.out ⟨HSTO.out.os, HSTO.out.tape, HSTO.out.output, by rw [HSTO.out.size]; exact Nat.le_refl _, fun b hb => HSTO.out.oth b (fun e => HRX.out.2.1 (by rw [← e]; exact hb))⟩)
     have HP5 : Hid (w5.heap[W.heap.size + 1]? = some (.cells (pCells h (.slice an h.names.length cn) (.slice ak kd.len ck) (.slice ae el.len ce)) 56 (0, 0))) := (HSTO.out.oth _ (by omega)).trans HP4.out
     have HV5 : Hid (ValS (okS S rb w5) w5 x b1 d1 b2 d2) := (HV4.out.kept (fun b hb => HSTO.out.oth b hb.2)).mono (fun b hb => HSX5.out.ok b hb.1)
     have hBd5 : Below w5.heap.size w5 w5.drew := ⟨rfl, rfl, rfl, Nat.le_refl _, fun _ _ => rfl⟩
     have HRUN6 := Lib.hid (HRUN5.out.below hBd5)
     have HST6 := Lib.hid (HST5.out.trans (HRUN5.out.stp hBd5))
     have HJ6 := Lib.hid (HJJ.out _ _ _ _ HJ5.out (off_below HRUN5.out.lt hBd5))
     have HV6 := Lib.hid ((HRUN5.out.stp hBd5).vals HV5.out)
     obtain ⟨am, cm, hlk5, hlk6, hpm⟩ := MapD.look2 HRUN5.out.map h.name
     have HPM := Lib.hid ((HRUN5.out.stp hBd5).parts hpm)
     have hdsm := HRUN5.out.dsm h.name
     have PC : Hid (Calls Tryz.prog 52 #[.agg #[.int .u8 (x.h.kind : Nat), .bool x.h.b, .int .i64 x.h.n, .int .u64 (x.h.bits : Nat), .string x.h.text, .slice b1 x.h.keys.length d1, .slice b2 x.items.len d2, .int .u8 (x.h.kind : Nat), .bool x.h.b, .int .i64 x.h.n, .int .u64 (x.h.bits : Nat), .string x.h.text, .slice b1 x.h.keys.length d1, .slice b2 x.items.len d2, .int .i64 ((deep : Int) + 1), .pointer (some ⟨rb, 0, none⟩)], .slice am (D h.name).len cm] w5.drew (EvP C l rb mb J (listF (evF D C n x x (deep + 1)) (D h.name) f) S pre w5.drew)) :=
      HP.out x x (D h.name) (deep + 1) f S pre w5.drew b1 b2 b1 b2 am d1 d2 d1 d2 cm hfn (by omega) hd1 hdsm.1 hdsm.2 HRUN6.out HJ6.out ⟨HSX.out, HSX.out, HV6.out, HV6.out⟩ HPM.out
     clear hpm hBd5 hdsm
     obtain ⟨p0, p1, p2, p3, p4, p5, p6, p7⟩ := pcCs HP5.out
     obtain ⟨q0, q1, q2, q3, q4, q5, q6, q7, q8, q9, q10, q11, q12, q13, q14, q15⟩ := runCs HB15.out
     have r0 : w5.cell? ⟨rb, 0, none⟩ = some (.map (some mb)) := by rw [cell_of_heap' HRE5.out]; rfl
     go_still_tail 9, (by kernel_rfl)
     change wpList _ _ _ _ _ w5.drew
     generalize w5.drew = w6 at *
     go_wp2_with fail
     refine PC.out.mono ?_
     rintro e w7 hev
     have hev2 := EvP.of_stp0 HST6.out hev
     rw [← HEQ.out] at hev2
     have HEV := Lib.hid hev2
     obtain ⟨S3, ys, -, -, -, hend⟩ := hev
     clear hev2 PC
     generalize hq : (listF (evF D C n x x (deep + 1)) (D h.name) f).err = q at *
     cases q with
     | none =>
       obtain ⟨rfl, -⟩ := hend
       go_wp2_with fail
       go_ret
       exact HEV.out
     | some q =>
       obtain ⟨qn, qp⟩ := q
       obtain rfl := hend
       go_wp2_with fail
       exact ⟨rfl, HEV.out⟩
end Go.Proofs.YtepcpgdfbaklfaaGreatDoor
