/- The contracts of json.twice and json.plain. The condition: sizes of at most 2 to the 24th. -/
import Derived.Test.YtepcpgdfbaklfaaGreatDoorMcF0
import Derived.Test.YtepcpgdfbaklfaaGreatDoorMcTso
import Derived.Test.YtepcpgdfbaklfaaGreatDoorMcE0
import Derived.Laws.StructEq
set_option linter.unusedSimpArgs false
set_option linter.unusedVariables false
namespace Go.Proofs.YtepcpgdfbaklfaaGreatDoor
open Go.RowKit Go.Shelf Ev
attribute [local go_sem ↓] Go.wp_at_zero Go.wp_at_succ
theorem twice_more (l : List By) : ∀ (r : List By), twice l = true → twice (l ++ r) = true := by
 induction l with
 | nil => intro r h; cases h
 | cons x l ih =>
   intro r h
   simp only [twice, Bool.or_eq_true] at h
   simp only [List.cons_append, twice, Bool.or_eq_true]
   rcases h with h | h
   · left
     rw [List.contains_iff_mem] at h ⊢
     exact List.mem_append_left _ h
   · exact .inr (ih r h)
theorem twice_nodup : ∀ (l : List ByteArray), twice (l.map bl) = !decide l.Nodup := by
 intro l
 induction l with
 | nil => rfl
 | cons x l ih =>
   have e : ((l.map bl).contains (bl x)) = true ↔ x ∈ l := by
    rw [List.contains_iff_mem, List.mem_map]
    exact ⟨fun ⟨y, hy, h⟩ => by rw [← Ev.bl_inj h]; exact hy, fun h => ⟨x, h, rfl⟩⟩
   rw [List.map_cons, twice, ih, Bool.eq_iff_iff]
   simp only [Bool.or_eq_true, Bool.not_eq_true', decide_eq_false_iff_not, e, List.nodup_cons]
   by_cases h1 : x ∈ l <;> by_cases h2 : l.Nodup <;> simp [h1, h2]
set_option maxRecDepth 100000 in
set_option maxHeartbeats 40000000 in
theorem twice_calls (l : List ByteArray) (hl : l.length ≤ 16777216) (hs : ∀ n ∈ l, n.size ≤ 16777216) (ok : Nat → Prop) (v : Value) (w : World) (h : Strs ok w v l) :
 Calls Tryz.prog 128 #[v] w fun e w' => e = .returned (.bool (twice (l.map bl))) ∧ Below w.heap.size w w' := by
 obtain ⟨a, c, rfl, h1, h2, h3⟩ := h.lt
 have H3 := Lib.hid h3
 have HS := Lib.hid hs
 clear h3 h hs
 have hmm := @run_makeMap Tryz.prog
 have HM0 : Hid (MapS w.heap.size 0 [] (w.alloc (.map #[] 0))) := MapS.made w
 have HB0 : Hid (Below w.heap.size w (w.alloc (.map #[] 0))) := (Below.refl _ w).alloc (Nat.le_refl _) _
 go_enter Tryz.func128, Tryz.ntmps128
 go_wp2_with fail
 generalize hW1 : World.alloc w _ = W1 at *
 clear hW1
 go_loopw [9] (fun i wr => ∃ k : Nat, i = .int .i64 (k : Nat) ∧ k ≤ l.length ∧ Hid (MapS w.heap.size k ((l.take k).map bl) wr) ∧ Hid (Below w.heap.size w wr) ∧ Hid (twice ((l.take k).map bl) = false)) (fun i _ => l.length - (intOf i).toNat)
 case atStart => exact ⟨0, rfl, Nat.zero_le _, HM0, HB0, rfl⟩
 case round =>
  obtain ⟨k, rfl, hk, HM, HB, HT⟩ := hrel
  by_cases hlt : k < l.length
  · have hlt' : (k : Int) < (l.length : Int) := by omega
    have hk0 : (0 : Int) ≤ (k : Int) := by omega
    obtain ⟨s, hsk⟩ : ∃ s, l[k]? = some s := ⟨_, List.getElem?_eq_getElem hlt⟩
    obtain ⟨b, o, rfl, ⟨-, hb⟩, hc⟩ := H3.out (by intro e; rw [e] at hlt; simp at hlt)
    have c1 : wr.cell? ⟨b, o + k, none⟩ = some (.string s) := (HB.out.cell (p := ⟨b, _, none⟩) hb).trans (hc k s hsk)
    have hss : s.size ≤ 16777216 := HS.out s (List.mem_of_getElem? hsk)
    have HTK : Hid ((l.take (k + 1)).map bl = (l.take k).map bl ++ [bl s]) := by
     unfold Hid
     rw [List.take_succ_eq_append_getElem hlt, List.map_append]
     congr 1
     rw [List.map_singleton, (List.getElem?_eq_some_iff.1 hsk).2]
    have HTT : Hid (l.map bl = ((l.take k).map bl ++ [bl s]) ++ (l.drop (k + 1)).map bl) := by
     unfold Hid; rw [← HTK.out, ← List.map_append, List.take_append_drop]
    obtain ⟨cc, hlk, hc0, hck, hciff, w4, hup, hm4, hgr4, hlk4⟩ := HM.out.store (by omega) s (by unfold maxLen; omega)
    rw [← HTK.out] at hm4
    have HM4 := Lib.hid hm4
    have HB4 : Hid (Below w.heap.size w w4) := HB.out.trans (Gr.to_below hgr4 HB.out.size (Nat.le_refl _))
    have wr1 : IntKind.i64.wrap (cc + 1) = cc + 1 := IntWalk.i64_in _ ⟨by omega, by omega⟩
    clear hc hsk hlt hm4 hgr4
    by_cases hcon : ((l.take k).map bl).contains (bl s) = true
    · have hgt : (1 : Int) < cc + 1 := by have := hciff.2 hcon; omega
      have hgd : decide ((1 : Int) < cc + 1) = true := decide_eq_true hgt
      have HR : Hid (twice (l.map bl) = true) := by
       unfold Hid; rw [HTT.out]; exact twice_more _ _ (by rw [twice_snocK, HT.out, hcon]; rfl)
      clear hciff hcon
      go_wp2_with fail
      go_ret
      exact ⟨by rw [HR.out]; rfl, HB4.out⟩
    · have hgt : ¬ (1 : Int) < cc + 1 := by intro e; exact hcon (hciff.1 (by omega))
      have hgd : decide ((1 : Int) < cc + 1) = false := decide_eq_false hgt
      have HR : Hid (twice ((l.take (k + 1)).map bl) = false) := by unfold Hid; rw [HTK.out, twice_snocK, HT.out]; simpa using hcon
      clear hciff hcon
      go_wp2_with fail
      go_roundw
      case rel => exact ⟨k + 1, by go_num, by omega, HM4, HB4, HR⟩
      case measure => simp [intOf]; omega
  · have hge : ¬ (k : Int) < (l.length : Int) := by omega
    have HR : Hid (twice (l.map bl) = false) := by have := HT.out; rw [List.take_of_length_le (by omega)] at this; exact this
    go_wp2_with fail
    go_ret
    exact ⟨by rw [HR.out]; rfl, HB.out⟩
def z4 (b : Bool) (n u : Int) (s : ByteArray) : Bool := !b && (decide (n = 0) && (decide (u = 0) && decide (s.size = 0)))
theorem rest_eql (b : Bool) (n u : Int) (s : ByteArray) (w : World) : (binOp .eql 183 (.agg #[.bool b, .int .i64 n, .int .u64 u, .string s]) (.agg #[.bool false, .int .i64 0, .int .u64 0, .string ⟨#[]⟩])).run Tryz.prog w = .ok (.bool (z4 b n u s)) w := by
 have hf : Tryz.prog.underlying 183 = some (.struct (Tryz.prog.fieldsOf 183)) := by kernel_rfl
 have hs : Tryz.prog.stoodInHeld 183 = false := by kernel_rfl
 rw [run_eql_struct, run_equalIn_struct w 9999 _ _ _ hf hs]
 have e0 := fun (d : Nat) w => run_equalIn_bool' (P := Tryz.prog) w d 4 b false Tryz.underlying4
 have e1 := fun (d : Nat) w => run_equalIn_int (P := Tryz.prog) w d 2 .i64 .i64 n 0 Tryz.underlying2
 have e2 := fun (d : Nat) w => run_equalIn_int (P := Tryz.prog) w d 27 .u64 .u64 u 0 Tryz.underlying27
 have e3 := fun (d : Nat) w => run_equalIn_string (P := Tryz.prog) w d 9 s ⟨#[]⟩ Tryz.underlying9
 have e4 : (s.toList = []) = (s.size = 0) := by
  rw [ByteArray.toList_eq, eq_iff_iff]
  constructor
  · intro h; have := congrArg List.length h; simpa using this
  · intro h; rw [size0 s h]
 simp only [Program.fieldsOf, Tryz.underlying183, Op.eqFields]
 simp [go_sem, Op.eqFields, e0 9998, e1 9998, e2 9998, e3 9998]
 simp only [e4]
 unfold z4
 cases b with
 | true => rfl
 | false =>
   by_cases hn : n = 0
   · by_cases hu : u = 0
     · by_cases hs : s.size = 0
       · simp [hn, hu, hs]
       · simp [hn, hu, hs]
     · simp [hn, hu]
   · simp [hn]
def PlainS (kind : Nat) (b : Bool) (n : Int) (bits : Nat) (text : ByteArray) (keys : List ByteArray) (its : Vl) : Prop := ∀ (ok : Nat → Prop) (a1 a2 : Option Addr) (c1 c2 : Nat) (w : World), Va.sm ⟨⟨kind, b, n, bits, text, keys⟩, its⟩ → ValS ok w ⟨⟨kind, b, n, bits, text, keys⟩, its⟩ a1 c1 a2 c2 →
 Calls Tryz.prog 90 #[.agg #[.int .u8 (kind : Nat), .bool b, .int .i64 n, .int .u64 (bits : Nat), .string text, .slice a1 keys.length c1, .slice a2 its.len c2]] w fun e w' => e = .returned (.bool (plainF ⟨kind, b, n, bits, text, keys⟩ its.len)) ∧ Below w.heap.size w w'
theorem plainF_low (kind : Nat) (b : Bool) (n : Int) (bits : Nat) (text : ByteArray) (keys : List ByteArray) (items : Nat) (h1 : 1 ≤ kind) (h6 : kind ≤ 6) : plainF ⟨kind, b, n, bits, text, keys⟩ items =
 (z4 (if kind = 2 then false else b) (if kind = 3 then 0 else n) (if kind = 4 then (0 : Int) else (bits : Int)) (if kind = 5 then ⟨#[]⟩ else text) && (decide ((if kind = 6 then 0 else items) = 0) && ((keys.length : Int) == 0))) := by
 have e0 : ((keys.length : Int) == 0) = decide (keys = []) := by cases keys with | nil => rfl | cons a l => simp; omega
 rw [e0]
 have hk : kind = 1 ∨ kind = 2 ∨ kind = 3 ∨ kind = 4 ∨ kind = 5 ∨ kind = 6 := by omega
 rcases hk with rfl | rfl | rfl | rfl | rfl | rfl
 all_goals
  simp only [plainF, z4]
  cases b <;> by_cases g1 : n = 0 <;> by_cases g2 : bits = 0 <;> by_cases g3 : text.size = 0 <;> by_cases g4 : keys = [] <;> by_cases g5 : items = 0 <;> (simp [g1, g2, g3, g4, g5]; try rfl)
theorem plainF_7 (b : Bool) (n : Int) (bits : Nat) (text : ByteArray) (keys : List ByteArray) (items : Nat) : plainF ⟨7, b, n, bits, text, keys⟩ items = (decide (items = keys.length) && (!twice (keys.map bl) && z4 b n bits text)) := by
 rw [twice_nodup]
 simp only [plainF, z4]
 by_cases g5 : items = keys.length <;> by_cases g4 : keys.Nodup <;> cases b <;> by_cases g1 : n = 0 <;> by_cases g2 : bits = 0 <;> by_cases g3 : text.size = 0 <;> simp [g1, g2, g3, g4, g5]
theorem plainF_off (kind : Nat) (b : Bool) (n : Int) (bits : Nat) (text : ByteArray) (keys : List ByteArray) (items : Nat) (h : kind = 0 ∨ 7 < kind) : plainF ⟨kind, b, n, bits, text, keys⟩ items = false := by
 have : ¬ (1 ≤ kind ∧ kind ≤ 7) := by omega
 simp [plainF, this]
set_option maxRecDepth 100000 in
set_option maxHeartbeats 40000000 in
theorem plain_1 (b : Bool) (n : Int) (bits : Nat) (text : ByteArray) (keys : List ByteArray) (its : Vl) : PlainS 1 b n bits text keys its := by
 intro ok a1 a2 c1 c2 w hsm hv
 clear hv hsm
 have EQ := rest_eql
 have HPL := Lib.hid (plainF_low 1 b n bits text keys its.len (by decide) (by decide))
 simp only [Nat.reduceEqDiff, if_true, if_false, reduceIte] at HPL
 have HB0 : Hid (Below w.heap.size w ((w.alloc (.cells #[.int .u8 (1 : Nat), .bool b, .int .i64 n, .int .u64 (bits : Nat), .string text, .slice a1 keys.length c1, .slice a2 its.len c2] 31)).alloc (.cells #[.bool b, .int .i64 n, .int .u64 (bits : Nat), .string text] 183))) := (((Below.refl _ w).alloc (Nat.le_refl _) _).alloc (by simp) _)
 have HS0 : Hid (((w.alloc (.cells #[.int .u8 (1 : Nat), .bool b, .int .i64 n, .int .u64 (bits : Nat), .string text, .slice a1 keys.length c1, .slice a2 its.len c2] 31)).alloc (.cells #[.bool b, .int .i64 n, .int .u64 (bits : Nat), .string text] 183)).heap.size = w.heap.size + 2) := by unfold Hid; simp
 have HT : Hid (∀ W0, ((w.alloc (.cells #[.int .u8 (1 : Nat), .bool b, .int .i64 n, .int .u64 (bits : Nat), .string text, .slice a1 keys.length c1, .slice a2 its.len c2] 31)).alloc (.cells #[.bool b, .int .i64 n, .int .u64 (bits : Nat), .string text] 183)) = W0 → W0.heap[w.heap.size]? = some (.cells #[.int .u8 (1 : Nat), .bool b, .int .i64 n, .int .u64 (bits : Nat), .string text, .slice a1 keys.length c1, .slice a2 its.len c2] 31 (0, 0)) ∧ W0.heap[w.heap.size + 1]? = some (.cells #[.bool b, .int .i64 n, .int .u64 (bits : Nat), .string text] 183 (0, 0))) := by
  rintro W0 rfl
  have s1 : (w.alloc (.cells #[.int .u8 (1 : Nat), .bool b, .int .i64 n, .int .u64 (bits : Nat), .string text, .slice a1 keys.length c1, .slice a2 its.len c2] 31 (0, 0))).heap.size = w.heap.size + 1 := by simp
  refine ⟨?_, ?_⟩
  · rw [Below.heap_alloc _ _ _ (by omega)]
    exact heap_alloc_new w _
  · skip
    have := heap_alloc_new (w.alloc (.cells #[.int .u8 (1 : Nat), .bool b, .int .i64 n, .int .u64 (bits : Nat), .string text, .slice a1 keys.length c1, .slice a2 its.len c2] 31 (0, 0))) (.cells #[.bool b, .int .i64 n, .int .u64 (bits : Nat), .string text] 183 (0, 0)); rwa [s1] at this
 go_enter Tryz.func90, Tryz.ntmps90
 go_upto_region 2 with (fail)
 go_quiet (fail)
 generalize hW0 : World.alloc (World.alloc w _) _ = W0 at *
 obtain ⟨hx0, hy0⟩ := HT.out W0 rfl
 clear HT hW0
 generalize hW1 : World.drewN W0 _ = W1
 have HB1 : Hid (Below w.heap.size w W1) := by rw [← hW1]; exact below_drewN HB0.out _
 have hz1 : w.heap.size + 2 ≤ W1.heap.size := by rw [← hW1]; show _ ≤ W0.heap.size; have := HS0.out; omega
 have hee : W1.heap = W0.heap := by rw [← hW1]; rfl
 have hx1 := hx0
 have hy1 := hy0
 rw [← hee] at hx1 hy1
 clear hW1 hx0 hy0 hee
 have x0 : W1.cell? ⟨w.heap.size, 0, none⟩ = some (.int .u8 ((1 : Nat) : Int)) := by rw [cell_of_heap' hx1]; rfl
 have x5 : W1.cell? ⟨w.heap.size, 5, none⟩ = some (.slice a1 keys.length c1) := by rw [cell_of_heap' hx1]; rfl
 have y0 : W1.cell? ⟨w.heap.size + 1, 0, none⟩ = some (.bool b) := by rw [cell_of_heap' hy1]; rfl
 have y1 : W1.cell? ⟨w.heap.size + 1, 1, none⟩ = some (.int .i64 n) := by rw [cell_of_heap' hy1]; rfl
 have y2 : W1.cell? ⟨w.heap.size + 1, 2, none⟩ = some (.int .u64 (bits : Nat)) := by rw [cell_of_heap' hy1]; rfl
 have y3 : W1.cell? ⟨w.heap.size + 1, 3, none⟩ = some (.string text) := by rw [cell_of_heap' hy1]; rfl
 have yf := frozen_cells hy1
 have HY1 := Lib.hid hy1
 clear hx1 hy1
 go_wp2_with fail
 all_goals
  go_ret
  refine ⟨?_, by first | exact HB1.out | exact HB1.out.setCell (p := ⟨w.heap.size + 1, _, none⟩) (by show w.heap.size ≤ w.heap.size + 1; omega) _⟩
  rw [HPL.out]
  simp [*]
set_option maxRecDepth 100000 in
set_option maxHeartbeats 40000000 in
theorem plain_2 (b : Bool) (n : Int) (bits : Nat) (text : ByteArray) (keys : List ByteArray) (its : Vl) : PlainS 2 b n bits text keys its := by
 intro ok a1 a2 c1 c2 w hsm hv
 clear hv hsm
 have EQ := rest_eql
 have HPL := Lib.hid (plainF_low 2 b n bits text keys its.len (by decide) (by decide))
 simp only [Nat.reduceEqDiff, if_true, if_false, reduceIte] at HPL
 have HB0 : Hid (Below w.heap.size w ((w.alloc (.cells #[.int .u8 (2 : Nat), .bool b, .int .i64 n, .int .u64 (bits : Nat), .string text, .slice a1 keys.length c1, .slice a2 its.len c2] 31)).alloc (.cells #[.bool b, .int .i64 n, .int .u64 (bits : Nat), .string text] 183))) := (((Below.refl _ w).alloc (Nat.le_refl _) _).alloc (by simp) _)
 have HS0 : Hid (((w.alloc (.cells #[.int .u8 (2 : Nat), .bool b, .int .i64 n, .int .u64 (bits : Nat), .string text, .slice a1 keys.length c1, .slice a2 its.len c2] 31)).alloc (.cells #[.bool b, .int .i64 n, .int .u64 (bits : Nat), .string text] 183)).heap.size = w.heap.size + 2) := by unfold Hid; simp
 have HT : Hid (∀ W0, ((w.alloc (.cells #[.int .u8 (2 : Nat), .bool b, .int .i64 n, .int .u64 (bits : Nat), .string text, .slice a1 keys.length c1, .slice a2 its.len c2] 31)).alloc (.cells #[.bool b, .int .i64 n, .int .u64 (bits : Nat), .string text] 183)) = W0 → W0.heap[w.heap.size]? = some (.cells #[.int .u8 (2 : Nat), .bool b, .int .i64 n, .int .u64 (bits : Nat), .string text, .slice a1 keys.length c1, .slice a2 its.len c2] 31 (0, 0)) ∧ W0.heap[w.heap.size + 1]? = some (.cells #[.bool b, .int .i64 n, .int .u64 (bits : Nat), .string text] 183 (0, 0))) := by
  rintro W0 rfl
  have s1 : (w.alloc (.cells #[.int .u8 (2 : Nat), .bool b, .int .i64 n, .int .u64 (bits : Nat), .string text, .slice a1 keys.length c1, .slice a2 its.len c2] 31 (0, 0))).heap.size = w.heap.size + 1 := by simp
  refine ⟨?_, ?_⟩
  · rw [Below.heap_alloc _ _ _ (by omega)]
    exact heap_alloc_new w _
  · skip
    have := heap_alloc_new (w.alloc (.cells #[.int .u8 (2 : Nat), .bool b, .int .i64 n, .int .u64 (bits : Nat), .string text, .slice a1 keys.length c1, .slice a2 its.len c2] 31 (0, 0))) (.cells #[.bool b, .int .i64 n, .int .u64 (bits : Nat), .string text] 183 (0, 0)); rwa [s1] at this
 go_enter Tryz.func90, Tryz.ntmps90
 go_upto_region 2 with (fail)
 go_quiet (fail)
 generalize hW0 : World.alloc (World.alloc w _) _ = W0 at *
 obtain ⟨hx0, hy0⟩ := HT.out W0 rfl
 clear HT hW0
 generalize hW1 : World.drewN W0 _ = W1
 have HB1 : Hid (Below w.heap.size w W1) := by rw [← hW1]; exact below_drewN HB0.out _
 have hz1 : w.heap.size + 2 ≤ W1.heap.size := by rw [← hW1]; show _ ≤ W0.heap.size; have := HS0.out; omega
 have hee : W1.heap = W0.heap := by rw [← hW1]; rfl
 have hx1 := hx0
 have hy1 := hy0
 rw [← hee] at hx1 hy1
 clear hW1 hx0 hy0 hee
 have x0 : W1.cell? ⟨w.heap.size, 0, none⟩ = some (.int .u8 ((2 : Nat) : Int)) := by rw [cell_of_heap' hx1]; rfl
 have x5 : W1.cell? ⟨w.heap.size, 5, none⟩ = some (.slice a1 keys.length c1) := by rw [cell_of_heap' hx1]; rfl
 have y0 : W1.cell? ⟨w.heap.size + 1, 0, none⟩ = some (.bool b) := by rw [cell_of_heap' hy1]; rfl
 have y1 : W1.cell? ⟨w.heap.size + 1, 1, none⟩ = some (.int .i64 n) := by rw [cell_of_heap' hy1]; rfl
 have y2 : W1.cell? ⟨w.heap.size + 1, 2, none⟩ = some (.int .u64 (bits : Nat)) := by rw [cell_of_heap' hy1]; rfl
 have y3 : W1.cell? ⟨w.heap.size + 1, 3, none⟩ = some (.string text) := by rw [cell_of_heap' hy1]; rfl
 have yf := frozen_cells hy1
 have HY1 := Lib.hid hy1
 clear hx1 hy1
 go_wp2_with fail
 all_goals
  go_ret
  refine ⟨?_, by first | exact HB1.out | exact HB1.out.setCell (p := ⟨w.heap.size + 1, _, none⟩) (by show w.heap.size ≤ w.heap.size + 1; omega) _⟩
  rw [HPL.out]
  simp [*]
set_option maxRecDepth 100000 in
set_option maxHeartbeats 40000000 in
theorem plain_3 (b : Bool) (n : Int) (bits : Nat) (text : ByteArray) (keys : List ByteArray) (its : Vl) : PlainS 3 b n bits text keys its := by
 intro ok a1 a2 c1 c2 w hsm hv
 clear hv hsm
 have EQ := rest_eql
 have HPL := Lib.hid (plainF_low 3 b n bits text keys its.len (by decide) (by decide))
 simp only [Nat.reduceEqDiff, if_true, if_false, reduceIte] at HPL
 have HB0 : Hid (Below w.heap.size w ((w.alloc (.cells #[.int .u8 (3 : Nat), .bool b, .int .i64 n, .int .u64 (bits : Nat), .string text, .slice a1 keys.length c1, .slice a2 its.len c2] 31)).alloc (.cells #[.bool b, .int .i64 n, .int .u64 (bits : Nat), .string text] 183))) := (((Below.refl _ w).alloc (Nat.le_refl _) _).alloc (by simp) _)
 have HS0 : Hid (((w.alloc (.cells #[.int .u8 (3 : Nat), .bool b, .int .i64 n, .int .u64 (bits : Nat), .string text, .slice a1 keys.length c1, .slice a2 its.len c2] 31)).alloc (.cells #[.bool b, .int .i64 n, .int .u64 (bits : Nat), .string text] 183)).heap.size = w.heap.size + 2) := by unfold Hid; simp
 have HT : Hid (∀ W0, ((w.alloc (.cells #[.int .u8 (3 : Nat), .bool b, .int .i64 n, .int .u64 (bits : Nat), .string text, .slice a1 keys.length c1, .slice a2 its.len c2] 31)).alloc (.cells #[.bool b, .int .i64 n, .int .u64 (bits : Nat), .string text] 183)) = W0 → W0.heap[w.heap.size]? = some (.cells #[.int .u8 (3 : Nat), .bool b, .int .i64 n, .int .u64 (bits : Nat), .string text, .slice a1 keys.length c1, .slice a2 its.len c2] 31 (0, 0)) ∧ W0.heap[w.heap.size + 1]? = some (.cells #[.bool b, .int .i64 n, .int .u64 (bits : Nat), .string text] 183 (0, 0))) := by
  rintro W0 rfl
  have s1 : (w.alloc (.cells #[.int .u8 (3 : Nat), .bool b, .int .i64 n, .int .u64 (bits : Nat), .string text, .slice a1 keys.length c1, .slice a2 its.len c2] 31 (0, 0))).heap.size = w.heap.size + 1 := by simp
  refine ⟨?_, ?_⟩
  · rw [Below.heap_alloc _ _ _ (by omega)]
    exact heap_alloc_new w _
  · skip
    have := heap_alloc_new (w.alloc (.cells #[.int .u8 (3 : Nat), .bool b, .int .i64 n, .int .u64 (bits : Nat), .string text, .slice a1 keys.length c1, .slice a2 its.len c2] 31 (0, 0))) (.cells #[.bool b, .int .i64 n, .int .u64 (bits : Nat), .string text] 183 (0, 0)); rwa [s1] at this
 go_enter Tryz.func90, Tryz.ntmps90
 go_upto_region 2 with (fail)
 go_quiet (fail)
 generalize hW0 : World.alloc (World.alloc w _) _ = W0 at *
 obtain ⟨hx0, hy0⟩ := HT.out W0 rfl
 clear HT hW0
 generalize hW1 : World.drewN W0 _ = W1
 have HB1 : Hid (Below w.heap.size w W1) := by rw [← hW1]; exact below_drewN HB0.out _
 have hz1 : w.heap.size + 2 ≤ W1.heap.size := by rw [← hW1]; show _ ≤ W0.heap.size; have := HS0.out; omega
 have hee : W1.heap = W0.heap := by rw [← hW1]; rfl
 have hx1 := hx0
 have hy1 := hy0
 rw [← hee] at hx1 hy1
 clear hW1 hx0 hy0 hee
 have x0 : W1.cell? ⟨w.heap.size, 0, none⟩ = some (.int .u8 ((3 : Nat) : Int)) := by rw [cell_of_heap' hx1]; rfl
 have x5 : W1.cell? ⟨w.heap.size, 5, none⟩ = some (.slice a1 keys.length c1) := by rw [cell_of_heap' hx1]; rfl
 have y0 : W1.cell? ⟨w.heap.size + 1, 0, none⟩ = some (.bool b) := by rw [cell_of_heap' hy1]; rfl
 have y1 : W1.cell? ⟨w.heap.size + 1, 1, none⟩ = some (.int .i64 n) := by rw [cell_of_heap' hy1]; rfl
 have y2 : W1.cell? ⟨w.heap.size + 1, 2, none⟩ = some (.int .u64 (bits : Nat)) := by rw [cell_of_heap' hy1]; rfl
 have y3 : W1.cell? ⟨w.heap.size + 1, 3, none⟩ = some (.string text) := by rw [cell_of_heap' hy1]; rfl
 have yf := frozen_cells hy1
 have HY1 := Lib.hid hy1
 clear hx1 hy1
 go_wp2_with fail
 all_goals
  go_ret
  refine ⟨?_, by first | exact HB1.out | exact HB1.out.setCell (p := ⟨w.heap.size + 1, _, none⟩) (by show w.heap.size ≤ w.heap.size + 1; omega) _⟩
  rw [HPL.out]
  simp [*]
set_option maxRecDepth 100000 in
set_option maxHeartbeats 40000000 in
theorem plain_4 (b : Bool) (n : Int) (bits : Nat) (text : ByteArray) (keys : List ByteArray) (its : Vl) : PlainS 4 b n bits text keys its := by
 intro ok a1 a2 c1 c2 w hsm hv
 clear hv hsm
 have EQ := rest_eql
 have HPL := Lib.hid (plainF_low 4 b n bits text keys its.len (by decide) (by decide))
 simp only [Nat.reduceEqDiff, if_true, if_false, reduceIte] at HPL
 have HB0 : Hid (Below w.heap.size w ((w.alloc (.cells #[.int .u8 (4 : Nat), .bool b, .int .i64 n, .int .u64 (bits : Nat), .string text, .slice a1 keys.length c1, .slice a2 its.len c2] 31)).alloc (.cells #[.bool b, .int .i64 n, .int .u64 (bits : Nat), .string text] 183))) := (((Below.refl _ w).alloc (Nat.le_refl _) _).alloc (by simp) _)
 have HS0 : Hid (((w.alloc (.cells #[.int .u8 (4 : Nat), .bool b, .int .i64 n, .int .u64 (bits : Nat), .string text, .slice a1 keys.length c1, .slice a2 its.len c2] 31)).alloc (.cells #[.bool b, .int .i64 n, .int .u64 (bits : Nat), .string text] 183)).heap.size = w.heap.size + 2) := by unfold Hid; simp
 have HT : Hid (∀ W0, ((w.alloc (.cells #[.int .u8 (4 : Nat), .bool b, .int .i64 n, .int .u64 (bits : Nat), .string text, .slice a1 keys.length c1, .slice a2 its.len c2] 31)).alloc (.cells #[.bool b, .int .i64 n, .int .u64 (bits : Nat), .string text] 183)) = W0 → W0.heap[w.heap.size]? = some (.cells #[.int .u8 (4 : Nat), .bool b, .int .i64 n, .int .u64 (bits : Nat), .string text, .slice a1 keys.length c1, .slice a2 its.len c2] 31 (0, 0)) ∧ W0.heap[w.heap.size + 1]? = some (.cells #[.bool b, .int .i64 n, .int .u64 (bits : Nat), .string text] 183 (0, 0))) := by
  rintro W0 rfl
  have s1 : (w.alloc (.cells #[.int .u8 (4 : Nat), .bool b, .int .i64 n, .int .u64 (bits : Nat), .string text, .slice a1 keys.length c1, .slice a2 its.len c2] 31 (0, 0))).heap.size = w.heap.size + 1 := by simp
  refine ⟨?_, ?_⟩
  · rw [Below.heap_alloc _ _ _ (by omega)]
    exact heap_alloc_new w _
  · skip
    have := heap_alloc_new (w.alloc (.cells #[.int .u8 (4 : Nat), .bool b, .int .i64 n, .int .u64 (bits : Nat), .string text, .slice a1 keys.length c1, .slice a2 its.len c2] 31 (0, 0))) (.cells #[.bool b, .int .i64 n, .int .u64 (bits : Nat), .string text] 183 (0, 0)); rwa [s1] at this
 go_enter Tryz.func90, Tryz.ntmps90
 go_upto_region 2 with (fail)
 go_quiet (fail)
 generalize hW0 : World.alloc (World.alloc w _) _ = W0 at *
 obtain ⟨hx0, hy0⟩ := HT.out W0 rfl
 clear HT hW0
 generalize hW1 : World.drewN W0 _ = W1
 have HB1 : Hid (Below w.heap.size w W1) := by rw [← hW1]; exact below_drewN HB0.out _
 have hz1 : w.heap.size + 2 ≤ W1.heap.size := by rw [← hW1]; show _ ≤ W0.heap.size; have := HS0.out; omega
 have hee : W1.heap = W0.heap := by rw [← hW1]; rfl
 have hx1 := hx0
 have hy1 := hy0
 rw [← hee] at hx1 hy1
 clear hW1 hx0 hy0 hee
 have x0 : W1.cell? ⟨w.heap.size, 0, none⟩ = some (.int .u8 ((4 : Nat) : Int)) := by rw [cell_of_heap' hx1]; rfl
 have x5 : W1.cell? ⟨w.heap.size, 5, none⟩ = some (.slice a1 keys.length c1) := by rw [cell_of_heap' hx1]; rfl
 have y0 : W1.cell? ⟨w.heap.size + 1, 0, none⟩ = some (.bool b) := by rw [cell_of_heap' hy1]; rfl
 have y1 : W1.cell? ⟨w.heap.size + 1, 1, none⟩ = some (.int .i64 n) := by rw [cell_of_heap' hy1]; rfl
 have y2 : W1.cell? ⟨w.heap.size + 1, 2, none⟩ = some (.int .u64 (bits : Nat)) := by rw [cell_of_heap' hy1]; rfl
 have y3 : W1.cell? ⟨w.heap.size + 1, 3, none⟩ = some (.string text) := by rw [cell_of_heap' hy1]; rfl
 have yf := frozen_cells hy1
 have HY1 := Lib.hid hy1
 clear hx1 hy1
 go_wp2_with fail
 all_goals
  go_ret
  refine ⟨?_, by first | exact HB1.out | exact HB1.out.setCell (p := ⟨w.heap.size + 1, _, none⟩) (by show w.heap.size ≤ w.heap.size + 1; omega) _⟩
  rw [HPL.out]
  simp [*]
set_option maxRecDepth 100000 in
set_option maxHeartbeats 40000000 in
theorem plain_5 (b : Bool) (n : Int) (bits : Nat) (text : ByteArray) (keys : List ByteArray) (its : Vl) : PlainS 5 b n bits text keys its := by
 intro ok a1 a2 c1 c2 w hsm hv
 clear hv hsm
 have EQ := rest_eql
 have HPL := Lib.hid (plainF_low 5 b n bits text keys its.len (by decide) (by decide))
 simp only [Nat.reduceEqDiff, if_true, if_false, reduceIte] at HPL
 have HB0 : Hid (Below w.heap.size w ((w.alloc (.cells #[.int .u8 (5 : Nat), .bool b, .int .i64 n, .int .u64 (bits : Nat), .string text, .slice a1 keys.length c1, .slice a2 its.len c2] 31)).alloc (.cells #[.bool b, .int .i64 n, .int .u64 (bits : Nat), .string text] 183))) := (((Below.refl _ w).alloc (Nat.le_refl _) _).alloc (by simp) _)
 have HS0 : Hid (((w.alloc (.cells #[.int .u8 (5 : Nat), .bool b, .int .i64 n, .int .u64 (bits : Nat), .string text, .slice a1 keys.length c1, .slice a2 its.len c2] 31)).alloc (.cells #[.bool b, .int .i64 n, .int .u64 (bits : Nat), .string text] 183)).heap.size = w.heap.size + 2) := by unfold Hid; simp
 have HT : Hid (∀ W0, ((w.alloc (.cells #[.int .u8 (5 : Nat), .bool b, .int .i64 n, .int .u64 (bits : Nat), .string text, .slice a1 keys.length c1, .slice a2 its.len c2] 31)).alloc (.cells #[.bool b, .int .i64 n, .int .u64 (bits : Nat), .string text] 183)) = W0 → W0.heap[w.heap.size]? = some (.cells #[.int .u8 (5 : Nat), .bool b, .int .i64 n, .int .u64 (bits : Nat), .string text, .slice a1 keys.length c1, .slice a2 its.len c2] 31 (0, 0)) ∧ W0.heap[w.heap.size + 1]? = some (.cells #[.bool b, .int .i64 n, .int .u64 (bits : Nat), .string text] 183 (0, 0))) := by
  rintro W0 rfl
  have s1 : (w.alloc (.cells #[.int .u8 (5 : Nat), .bool b, .int .i64 n, .int .u64 (bits : Nat), .string text, .slice a1 keys.length c1, .slice a2 its.len c2] 31 (0, 0))).heap.size = w.heap.size + 1 := by simp
  refine ⟨?_, ?_⟩
  · rw [Below.heap_alloc _ _ _ (by omega)]
    exact heap_alloc_new w _
  · skip
    have := heap_alloc_new (w.alloc (.cells #[.int .u8 (5 : Nat), .bool b, .int .i64 n, .int .u64 (bits : Nat), .string text, .slice a1 keys.length c1, .slice a2 its.len c2] 31 (0, 0))) (.cells #[.bool b, .int .i64 n, .int .u64 (bits : Nat), .string text] 183 (0, 0)); rwa [s1] at this
 go_enter Tryz.func90, Tryz.ntmps90
 go_upto_region 2 with (fail)
 go_quiet (fail)
 generalize hW0 : World.alloc (World.alloc w _) _ = W0 at *
 obtain ⟨hx0, hy0⟩ := HT.out W0 rfl
 clear HT hW0
 generalize hW1 : World.drewN W0 _ = W1
 have HB1 : Hid (Below w.heap.size w W1) := by rw [← hW1]; exact below_drewN HB0.out _
 have hz1 : w.heap.size + 2 ≤ W1.heap.size := by rw [← hW1]; show _ ≤ W0.heap.size; have := HS0.out; omega
 have hee : W1.heap = W0.heap := by rw [← hW1]; rfl
 have hx1 := hx0
 have hy1 := hy0
 rw [← hee] at hx1 hy1
 clear hW1 hx0 hy0 hee
 have x0 : W1.cell? ⟨w.heap.size, 0, none⟩ = some (.int .u8 ((5 : Nat) : Int)) := by rw [cell_of_heap' hx1]; rfl
 have x5 : W1.cell? ⟨w.heap.size, 5, none⟩ = some (.slice a1 keys.length c1) := by rw [cell_of_heap' hx1]; rfl
 have y0 : W1.cell? ⟨w.heap.size + 1, 0, none⟩ = some (.bool b) := by rw [cell_of_heap' hy1]; rfl
 have y1 : W1.cell? ⟨w.heap.size + 1, 1, none⟩ = some (.int .i64 n) := by rw [cell_of_heap' hy1]; rfl
 have y2 : W1.cell? ⟨w.heap.size + 1, 2, none⟩ = some (.int .u64 (bits : Nat)) := by rw [cell_of_heap' hy1]; rfl
 have y3 : W1.cell? ⟨w.heap.size + 1, 3, none⟩ = some (.string text) := by rw [cell_of_heap' hy1]; rfl
 have yf := frozen_cells hy1
 have HY1 := Lib.hid hy1
 clear hx1 hy1
 go_wp2_with fail
 all_goals
  go_ret
  refine ⟨?_, by first | exact HB1.out | exact HB1.out.setCell (p := ⟨w.heap.size + 1, _, none⟩) (by show w.heap.size ≤ w.heap.size + 1; omega) _⟩
  rw [HPL.out]
  simp [*]
set_option maxRecDepth 100000 in
set_option maxHeartbeats 40000000 in
theorem plain_6 (b : Bool) (n : Int) (bits : Nat) (text : ByteArray) (keys : List ByteArray) (its : Vl) : PlainS 6 b n bits text keys its := by
 intro ok a1 a2 c1 c2 w hsm hv
 clear hv hsm
 have EQ := rest_eql
 have HPL := Lib.hid (plainF_low 6 b n bits text keys its.len (by decide) (by decide))
 simp only [Nat.reduceEqDiff, if_true, if_false, reduceIte] at HPL
 have HB0 : Hid (Below w.heap.size w ((w.alloc (.cells #[.int .u8 (6 : Nat), .bool b, .int .i64 n, .int .u64 (bits : Nat), .string text, .slice a1 keys.length c1, .slice a2 its.len c2] 31)).alloc (.cells #[.bool b, .int .i64 n, .int .u64 (bits : Nat), .string text] 183))) := (((Below.refl _ w).alloc (Nat.le_refl _) _).alloc (by simp) _)
 have HS0 : Hid (((w.alloc (.cells #[.int .u8 (6 : Nat), .bool b, .int .i64 n, .int .u64 (bits : Nat), .string text, .slice a1 keys.length c1, .slice a2 its.len c2] 31)).alloc (.cells #[.bool b, .int .i64 n, .int .u64 (bits : Nat), .string text] 183)).heap.size = w.heap.size + 2) := by unfold Hid; simp
 have HT : Hid (∀ W0, ((w.alloc (.cells #[.int .u8 (6 : Nat), .bool b, .int .i64 n, .int .u64 (bits : Nat), .string text, .slice a1 keys.length c1, .slice a2 its.len c2] 31)).alloc (.cells #[.bool b, .int .i64 n, .int .u64 (bits : Nat), .string text] 183)) = W0 → W0.heap[w.heap.size]? = some (.cells #[.int .u8 (6 : Nat), .bool b, .int .i64 n, .int .u64 (bits : Nat), .string text, .slice a1 keys.length c1, .slice a2 its.len c2] 31 (0, 0)) ∧ W0.heap[w.heap.size + 1]? = some (.cells #[.bool b, .int .i64 n, .int .u64 (bits : Nat), .string text] 183 (0, 0))) := by
  rintro W0 rfl
  have s1 : (w.alloc (.cells #[.int .u8 (6 : Nat), .bool b, .int .i64 n, .int .u64 (bits : Nat), .string text, .slice a1 keys.length c1, .slice a2 its.len c2] 31 (0, 0))).heap.size = w.heap.size + 1 := by simp
  refine ⟨?_, ?_⟩
  · rw [Below.heap_alloc _ _ _ (by omega)]
    exact heap_alloc_new w _
  · skip
    have := heap_alloc_new (w.alloc (.cells #[.int .u8 (6 : Nat), .bool b, .int .i64 n, .int .u64 (bits : Nat), .string text, .slice a1 keys.length c1, .slice a2 its.len c2] 31 (0, 0))) (.cells #[.bool b, .int .i64 n, .int .u64 (bits : Nat), .string text] 183 (0, 0)); rwa [s1] at this
 go_enter Tryz.func90, Tryz.ntmps90
 go_upto_region 2 with (fail)
 go_quiet (fail)
 generalize hW0 : World.alloc (World.alloc w _) _ = W0 at *
 obtain ⟨hx0, hy0⟩ := HT.out W0 rfl
 clear HT hW0
 generalize hW1 : World.drewN W0 _ = W1
 have HB1 : Hid (Below w.heap.size w W1) := by rw [← hW1]; exact below_drewN HB0.out _
 have hz1 : w.heap.size + 2 ≤ W1.heap.size := by rw [← hW1]; show _ ≤ W0.heap.size; have := HS0.out; omega
 have hee : W1.heap = W0.heap := by rw [← hW1]; rfl
 have hx1 := hx0
 have hy1 := hy0
 rw [← hee] at hx1 hy1
 clear hW1 hx0 hy0 hee
 have x0 : W1.cell? ⟨w.heap.size, 0, none⟩ = some (.int .u8 ((6 : Nat) : Int)) := by rw [cell_of_heap' hx1]; rfl
 have x5 : W1.cell? ⟨w.heap.size, 5, none⟩ = some (.slice a1 keys.length c1) := by rw [cell_of_heap' hx1]; rfl
 have y0 : W1.cell? ⟨w.heap.size + 1, 0, none⟩ = some (.bool b) := by rw [cell_of_heap' hy1]; rfl
 have y1 : W1.cell? ⟨w.heap.size + 1, 1, none⟩ = some (.int .i64 n) := by rw [cell_of_heap' hy1]; rfl
 have y2 : W1.cell? ⟨w.heap.size + 1, 2, none⟩ = some (.int .u64 (bits : Nat)) := by rw [cell_of_heap' hy1]; rfl
 have y3 : W1.cell? ⟨w.heap.size + 1, 3, none⟩ = some (.string text) := by rw [cell_of_heap' hy1]; rfl
 have yf := frozen_cells hy1
 have HY1 := Lib.hid hy1
 clear hx1 hy1
 go_wp2_with fail
 all_goals
  go_ret
  refine ⟨?_, by first | exact HB1.out | exact HB1.out.setCell (p := ⟨w.heap.size + 1, _, none⟩) (by show w.heap.size ≤ w.heap.size + 1; omega) _⟩
  rw [HPL.out]
  simp [*]
set_option maxRecDepth 100000 in
set_option maxHeartbeats 40000000 in
theorem plain_7 (b : Bool) (n : Int) (bits : Nat) (text : ByteArray) (keys : List ByteArray) (its : Vl) : PlainS 7 b n bits text keys its := by
 intro ok a1 a2 c1 c2 w hsm hv
 have TC : Hid (∀ W, Below w.heap.size w W → Calls Tryz.prog 128 #[.slice a1 keys.length c1] W fun e w' => e = .returned (.bool (twice (keys.map bl))) ∧ Below W.heap.size W w') := fun W hW =>
  twice_calls keys hsm.1.2.2.2.2.2.1 hsm.1.2.2.2.2.2.2 (fun b => ok b ∧ b < w.heap.size) _ W (hv.1.lt.kept (fun b hb => hW.block b hb.2))
 clear hv hsm
 have EQ := rest_eql
 have HPL := Lib.hid (plainF_7 b n bits text keys its.len)
 have HB0 : Hid (Below w.heap.size w ((w.alloc (.cells #[.int .u8 (7 : Nat), .bool b, .int .i64 n, .int .u64 (bits : Nat), .string text, .slice a1 keys.length c1, .slice a2 its.len c2] 31)).alloc (.cells #[.bool b, .int .i64 n, .int .u64 (bits : Nat), .string text] 183))) := (((Below.refl _ w).alloc (Nat.le_refl _) _).alloc (by simp) _)
 have HS0 : Hid (((w.alloc (.cells #[.int .u8 (7 : Nat), .bool b, .int .i64 n, .int .u64 (bits : Nat), .string text, .slice a1 keys.length c1, .slice a2 its.len c2] 31)).alloc (.cells #[.bool b, .int .i64 n, .int .u64 (bits : Nat), .string text] 183)).heap.size = w.heap.size + 2) := by unfold Hid; simp
 have HT : Hid (∀ W0, ((w.alloc (.cells #[.int .u8 (7 : Nat), .bool b, .int .i64 n, .int .u64 (bits : Nat), .string text, .slice a1 keys.length c1, .slice a2 its.len c2] 31)).alloc (.cells #[.bool b, .int .i64 n, .int .u64 (bits : Nat), .string text] 183)) = W0 → W0.heap[w.heap.size]? = some (.cells #[.int .u8 (7 : Nat), .bool b, .int .i64 n, .int .u64 (bits : Nat), .string text, .slice a1 keys.length c1, .slice a2 its.len c2] 31 (0, 0)) ∧ W0.heap[w.heap.size + 1]? = some (.cells #[.bool b, .int .i64 n, .int .u64 (bits : Nat), .string text] 183 (0, 0))) := by
  rintro W0 rfl
  have s1 : (w.alloc (.cells #[.int .u8 (7 : Nat), .bool b, .int .i64 n, .int .u64 (bits : Nat), .string text, .slice a1 keys.length c1, .slice a2 its.len c2] 31 (0, 0))).heap.size = w.heap.size + 1 := by simp
  refine ⟨?_, ?_⟩
  · rw [Below.heap_alloc _ _ _ (by omega)]
    exact heap_alloc_new w _
  · skip
    have := heap_alloc_new (w.alloc (.cells #[.int .u8 (7 : Nat), .bool b, .int .i64 n, .int .u64 (bits : Nat), .string text, .slice a1 keys.length c1, .slice a2 its.len c2] 31 (0, 0))) (.cells #[.bool b, .int .i64 n, .int .u64 (bits : Nat), .string text] 183 (0, 0)); rwa [s1] at this
 go_enter Tryz.func90, Tryz.ntmps90
 go_upto_region 2 with (fail)
 go_quiet (fail)
 generalize hW0 : World.alloc (World.alloc w _) _ = W0 at *
 obtain ⟨hx0, hy0⟩ := HT.out W0 rfl
 clear HT hW0
 generalize hW1 : World.drewN W0 _ = W1
 have HB1 : Hid (Below w.heap.size w W1) := by rw [← hW1]; exact below_drewN HB0.out _
 have hz1 : w.heap.size + 2 ≤ W1.heap.size := by rw [← hW1]; show _ ≤ W0.heap.size; have := HS0.out; omega
 have hee : W1.heap = W0.heap := by rw [← hW1]; rfl
 have hx1 := hx0
 have hy1 := hy0
 rw [← hee] at hx1 hy1
 clear hW1 hx0 hy0 hee
 have x0 : W1.cell? ⟨w.heap.size, 0, none⟩ = some (.int .u8 ((7 : Nat) : Int)) := by rw [cell_of_heap' hx1]; rfl
 have x5 : W1.cell? ⟨w.heap.size, 5, none⟩ = some (.slice a1 keys.length c1) := by rw [cell_of_heap' hx1]; rfl
 have y0 : W1.cell? ⟨w.heap.size + 1, 0, none⟩ = some (.bool b) := by rw [cell_of_heap' hy1]; rfl
 have y1 : W1.cell? ⟨w.heap.size + 1, 1, none⟩ = some (.int .i64 n) := by rw [cell_of_heap' hy1]; rfl
 have y2 : W1.cell? ⟨w.heap.size + 1, 2, none⟩ = some (.int .u64 (bits : Nat)) := by rw [cell_of_heap' hy1]; rfl
 have y3 : W1.cell? ⟨w.heap.size + 1, 3, none⟩ = some (.string text) := by rw [cell_of_heap' hy1]; rfl
 have yf := frozen_cells hy1
 have HY1 := Lib.hid hy1
 clear hx1 hy1
 by_cases hne : its.len = keys.length
 · have e1 : ((its.len : Int) != (keys.length : Int)) = false := by simp [hne]
   have e2 : (its.len : Int) = (keys.length : Int) := by omega
   have e3 : ((its.len : Int) == (keys.length : Int)) = true := by simp [hne]
   go_wp2_with fail
   refine (TC.out _ HB1.out).mono ?_
   rintro e w2 ⟨rfl, hb2⟩
   have HY2 := Lib.hid ((hb2.block _ (by omega)).trans HY1.out)
   have HB2 : Hid (Below w.heap.size w w2) := HB1.out.trans (hb2.mono HB1.out.size)
   clear hb2 y0 y1 y2 y3 yf x0 x5
   have y0 : w2.cell? ⟨w.heap.size + 1, 0, none⟩ = some (.bool b) := by rw [cell_of_heap' HY2.out]; rfl
   have y1 : w2.cell? ⟨w.heap.size + 1, 1, none⟩ = some (.int .i64 n) := by rw [cell_of_heap' HY2.out]; rfl
   have y2 : w2.cell? ⟨w.heap.size + 1, 2, none⟩ = some (.int .u64 (bits : Nat)) := by rw [cell_of_heap' HY2.out]; rfl
   have y3 : w2.cell? ⟨w.heap.size + 1, 3, none⟩ = some (.string text) := by rw [cell_of_heap' HY2.out]; rfl
   generalize hT : twice (keys.map bl) = tw at *
   cases tw with
   | true =>
     go_wp2_with fail
     go_ret
     exact ⟨by rw [HPL.out]; simp, HB2.out⟩
   | false =>
     go_wp2_with fail
     all_goals
      go_ret
      refine ⟨?_, HB2.out⟩
      rw [HPL.out]
      simp [*]
 · have e2 : ¬ (its.len : Int) = (keys.length : Int) := by omega
   have e1 : ((its.len : Int) != (keys.length : Int)) = true := by simp [e2]
   have e3 : ((its.len : Int) == (keys.length : Int)) = false := by simp [e2]
   go_wp2_with fail
   go_ret
   refine ⟨?_, HB1.out⟩
   rw [HPL.out]
   simp [hne]
set_option maxRecDepth 100000 in
set_option maxHeartbeats 40000000 in
theorem plain_off (kind : Nat) (hk : kind = 0 ∨ 7 < kind) (b : Bool) (n : Int) (bits : Nat) (text : ByteArray) (keys : List ByteArray) (its : Vl) : PlainS kind b n bits text keys its := by
 intro ok a1 a2 c1 c2 w hsm hv
 clear hv hsm
 have HPL := Lib.hid (plainF_off kind b n bits text keys its.len hk)
 have e1 : ((kind : Int) == 1) = false := beq_eq_false_iff_ne.2 (by omega)
 have g1 : ¬ (kind : Int) = 1 := by omega
 have e2 : ((kind : Int) == 2) = false := beq_eq_false_iff_ne.2 (by omega)
 have g2 : ¬ (kind : Int) = 2 := by omega
 have e3 : ((kind : Int) == 3) = false := beq_eq_false_iff_ne.2 (by omega)
 have g3 : ¬ (kind : Int) = 3 := by omega
 have e4 : ((kind : Int) == 4) = false := beq_eq_false_iff_ne.2 (by omega)
 have g4 : ¬ (kind : Int) = 4 := by omega
 have e5 : ((kind : Int) == 5) = false := beq_eq_false_iff_ne.2 (by omega)
 have g5 : ¬ (kind : Int) = 5 := by omega
 have e6 : ((kind : Int) == 6) = false := beq_eq_false_iff_ne.2 (by omega)
 have g6 : ¬ (kind : Int) = 6 := by omega
 have e7 : ((kind : Int) == 7) = false := beq_eq_false_iff_ne.2 (by omega)
 have g7 : ¬ (kind : Int) = 7 := by omega
 clear hk
 have HB0 : Hid (Below w.heap.size w ((w.alloc (.cells #[.int .u8 (kind : Nat), .bool b, .int .i64 n, .int .u64 (bits : Nat), .string text, .slice a1 keys.length c1, .slice a2 its.len c2] 31)).alloc (.cells #[.bool b, .int .i64 n, .int .u64 (bits : Nat), .string text] 183))) := (((Below.refl _ w).alloc (Nat.le_refl _) _).alloc (by simp) _)
 have HS0 : Hid (((w.alloc (.cells #[.int .u8 (kind : Nat), .bool b, .int .i64 n, .int .u64 (bits : Nat), .string text, .slice a1 keys.length c1, .slice a2 its.len c2] 31)).alloc (.cells #[.bool b, .int .i64 n, .int .u64 (bits : Nat), .string text] 183)).heap.size = w.heap.size + 2) := by unfold Hid; simp
 have HT : Hid (∀ W0, ((w.alloc (.cells #[.int .u8 (kind : Nat), .bool b, .int .i64 n, .int .u64 (bits : Nat), .string text, .slice a1 keys.length c1, .slice a2 its.len c2] 31)).alloc (.cells #[.bool b, .int .i64 n, .int .u64 (bits : Nat), .string text] 183)) = W0 → W0.heap[w.heap.size]? = some (.cells #[.int .u8 (kind : Nat), .bool b, .int .i64 n, .int .u64 (bits : Nat), .string text, .slice a1 keys.length c1, .slice a2 its.len c2] 31 (0, 0)) ∧ W0.heap[w.heap.size + 1]? = some (.cells #[.bool b, .int .i64 n, .int .u64 (bits : Nat), .string text] 183 (0, 0))) := by
  rintro W0 rfl
  have s1 : (w.alloc (.cells #[.int .u8 (kind : Nat), .bool b, .int .i64 n, .int .u64 (bits : Nat), .string text, .slice a1 keys.length c1, .slice a2 its.len c2] 31 (0, 0))).heap.size = w.heap.size + 1 := by simp
  refine ⟨?_, ?_⟩
  · rw [Below.heap_alloc _ _ _ (by omega)]
    exact heap_alloc_new w _
  · skip
    have := heap_alloc_new (w.alloc (.cells #[.int .u8 (kind : Nat), .bool b, .int .i64 n, .int .u64 (bits : Nat), .string text, .slice a1 keys.length c1, .slice a2 its.len c2] 31 (0, 0))) (.cells #[.bool b, .int .i64 n, .int .u64 (bits : Nat), .string text] 183 (0, 0)); rwa [s1] at this
 go_enter Tryz.func90, Tryz.ntmps90
 go_upto_region 2 with (fail)
 go_quiet (fail)
 generalize hW0 : World.alloc (World.alloc w _) _ = W0 at *
 obtain ⟨hx0, hy0⟩ := HT.out W0 rfl
 clear HT hW0
 generalize hW1 : World.drewN W0 _ = W1
 have HB1 : Hid (Below w.heap.size w W1) := by rw [← hW1]; exact below_drewN HB0.out _
 have hz1 : w.heap.size + 2 ≤ W1.heap.size := by rw [← hW1]; show _ ≤ W0.heap.size; have := HS0.out; omega
 have hee : W1.heap = W0.heap := by rw [← hW1]; rfl
 have hx1 := hx0
 have hy1 := hy0
 rw [← hee] at hx1 hy1
 clear hW1 hx0 hy0 hee
 have x0 : W1.cell? ⟨w.heap.size, 0, none⟩ = some (.int .u8 ((kind : Nat) : Int)) := by rw [cell_of_heap' hx1]; rfl
 have x5 : W1.cell? ⟨w.heap.size, 5, none⟩ = some (.slice a1 keys.length c1) := by rw [cell_of_heap' hx1]; rfl
 have y0 : W1.cell? ⟨w.heap.size + 1, 0, none⟩ = some (.bool b) := by rw [cell_of_heap' hy1]; rfl
 have y1 : W1.cell? ⟨w.heap.size + 1, 1, none⟩ = some (.int .i64 n) := by rw [cell_of_heap' hy1]; rfl
 have y2 : W1.cell? ⟨w.heap.size + 1, 2, none⟩ = some (.int .u64 (bits : Nat)) := by rw [cell_of_heap' hy1]; rfl
 have y3 : W1.cell? ⟨w.heap.size + 1, 3, none⟩ = some (.string text) := by rw [cell_of_heap' hy1]; rfl
 have yf := frozen_cells hy1
 have HY1 := Lib.hid hy1
 clear hx1 hy1
 go_wp2_with fail
 go_ret
 exact ⟨by rw [HPL.out]; rfl, HB1.out⟩
theorem plain_calls (x : Va) (hs : Va.sm x) (ok : Nat → Prop) (a1 a2 : Option Addr) (c1 c2 : Nat) (w : World) (hv : ValS ok w x a1 c1 a2 c2) :
 Calls Tryz.prog 90 #[.agg #[.int .u8 (x.h.kind : Nat), .bool x.h.b, .int .i64 x.h.n, .int .u64 (x.h.bits : Nat), .string x.h.text, .slice a1 x.h.keys.length c1, .slice a2 x.items.len c2]] w fun e w' => e = .returned (.bool (plainF x.h x.items.len)) ∧ Below w.heap.size w w' := by
 obtain ⟨⟨kind, b, n, bits, text, keys⟩, its⟩ := x
 by_cases h : kind = 0 ∨ 7 < kind
 · exact plain_off kind h b n bits text keys its ok a1 a2 c1 c2 w hs hv
 · have hk : kind = 1 ∨ kind = 2 ∨ kind = 3 ∨ kind = 4 ∨ kind = 5 ∨ kind = 6 ∨ kind = 7 := by omega
   rcases hk with rfl | rfl | rfl | rfl | rfl | rfl | rfl
   · exact plain_1 b n bits text keys its ok a1 a2 c1 c2 w hs hv
   · exact plain_2 b n bits text keys its ok a1 a2 c1 c2 w hs hv
   · exact plain_3 b n bits text keys its ok a1 a2 c1 c2 w hs hv
   · exact plain_4 b n bits text keys its ok a1 a2 c1 c2 w hs hv
   · exact plain_5 b n bits text keys its ok a1 a2 c1 c2 w hs hv
   · exact plain_6 b n bits text keys its ok a1 a2 c1 c2 w hs hv
   · exact plain_7 b n bits text keys its ok a1 a2 c1 c2 w hs hv
theorem deep_le_cntX (t : Vl) : deepF t ≤ cntX t := by
 induction t with
 | nil => exact Nat.le_refl _
 | cons h k r ih1 ih2 =>
   simp only [deepF, cntX]
   split <;> omega
theorem look_le {x : Va} {d : Nat} (h : lookV x = some d) : d ≤ cntX x.items + 1 := by
 rw [lookV_eq] at h
 split at h
 · injection h with h
   have := deep_le_cntX (.cons x.h x.items .nil)
   simp only [cntX] at this
   omega
 · cases h
def LoP (x : Va) (w : World) (e : Ending) (w' : World) : Prop := Below w.heap.size w w' ∧ match lookV x with
 | some d => e = .returned (.tuple #[.int .i64 (d : Nat), .bool true])
 | none => e = .returned (.tuple #[.int .i64 0, .bool false])
theorem LoP.none {x : Va} {w : World} {e : Ending} {w' : World} (h : lookV x = Option.none) (he : e = .returned (.tuple #[.int .i64 0, .bool false])) (hb : Below w.heap.size w w') : LoP x w e w' := by
 unfold LoP
 rw [h]
 exact ⟨hb, he⟩
theorem LoP.some {x : Va} {d : Nat} {w : World} {e : Ending} {w' : World} (h : lookV x = Option.some d) (he : e = .returned (.tuple #[.int .i64 (d : Nat), .bool true])) (hb : Below w.heap.size w w') : LoP x w e w' := by
 unfold LoP
 rw [h]
 exact ⟨hb, he⟩
def LoSaid (n : Nat) : Prop := ∀ (x : Va), cntX x.items < n → ∀ (ok : Nat → Prop) (a1 a2 : Option Addr) (c1 c2 : Nat) (w : World), Va.sm x → ValS ok w x a1 c1 a2 c2 → Calls Tryz.prog 50 #[.agg #[.int .u8 (x.h.kind : Nat), .bool x.h.b, .int .i64 x.h.n, .int .u64 (x.h.bits : Nat), .string x.h.text, .slice a1 x.h.keys.length c1, .slice a2 x.items.len c2]] w (LoP x w)
set_option maxRecDepth 100000 in
set_option maxHeartbeats 40000000 in
theorem lo_step (n : Nat) (ih : LoSaid n) : LoSaid (n + 1) := by
 intro x hn ok a1 a2 c1 c2 w hsm hv
 have PC : Hid (∀ W, Below w.heap.size w W → Calls Tryz.prog 90 #[.agg #[.int .u8 (x.h.kind : Nat), .bool x.h.b, .int .i64 x.h.n, .int .u64 (x.h.bits : Nat), .string x.h.text, .slice a1 x.h.keys.length c1, .slice a2 x.items.len c2]] W fun e w' => e = .returned (.bool (plainF x.h x.items.len)) ∧ Below W.heap.size W w') := fun W hW =>
  plain_calls x hsm (fun b => ok b ∧ b < w.heap.size) a1 a2 c1 c2 W (hv.lt.kept (fun b hb => hW.block b hb.2))
 have hlc := len_le_cntX x.items
 obtain ⟨-, hsi, hci⟩ := hsm
 obtain ⟨a', c', hv2, -, -, h3⟩ := Vals.rest hv.2
 obtain ⟨rfl, rfl⟩ : a2 = a' ∧ c2 = c' := by cases hv2; exact ⟨rfl, rfl⟩
 have HX := Lib.hid h3
 have HSI := Lib.hid hsi
 have IH := Lib.hid ih
 obtain ⟨pl, hpl⟩ : ∃ pl, plainF x.h x.items.len = pl := ⟨_, rfl⟩
 have HLV : Hid (lookV x = if pl = true then lookG x.items (if 6 ≤ x.h.kind then 1 else 0) else none) := by unfold Hid lookV; rw [hpl]
 rw [hpl] at PC
 clear h3 hsi ih hv hv2 hpl
 have HB0 : Hid (Below w.heap.size w (w.alloc (.cells (xCells x.h (.slice a1 x.h.keys.length c1) (.slice a2 x.items.len c2)) 31))) := (Below.refl _ w).alloc (Nat.le_refl _) _
 have HS0 : Hid ((w.alloc (.cells (xCells x.h (.slice a1 x.h.keys.length c1) (.slice a2 x.items.len c2)) 31)).heap.size = w.heap.size + 1) := by unfold Hid; simp
 have HTC : Hid (∀ W, Below (w.heap.size + 1) (w.alloc (.cells (xCells x.h (.slice a1 x.h.keys.length c1) (.slice a2 x.items.len c2)) 31)) W → XcCs w.heap.size x.h (.slice a1 x.h.keys.length c1) (.slice a2 x.items.len c2) W) := fun W hW => xcCs ((hW.block _ (by omega)).trans (heap_alloc_new w _))
 unfold xCells at HB0 HS0 HTC
 go_enter Tryz.func50, Tryz.ntmps50
 go_wp2_with fail
 generalize hWW : World.alloc w _ = W0 at *
 clear hWW
 refine (PC.out _ HB0.out).mono ?_
 rintro e w1 ⟨rfl, hb1⟩
 have HB1 : Hid (Below (w.heap.size + 1) W0 w1) := hb1.mono (by rw [HS0.out]; exact Nat.le_refl _)
 clear hb1 PC
 cases pl with
 | false =>
   have HN : Hid (lookV x = none) := by unfold Hid; rw [HLV.out]; rfl
   go_wp2_with fail
   go_ret2
   exact LoP.none HN.out rfl (HB0.out.trans (HB1.out.mono (by omega)))
 | true =>
   obtain ⟨m0, hm0⟩ : ∃ m0 : Nat, (if 6 ≤ x.h.kind then 1 else 0) = m0 := ⟨_, rfl⟩
   have HLV2 : Hid (lookV x = lookG x.items m0) := by unfold Hid; rw [HLV.out, if_pos rfl, hm0]
   clear HLV
   obtain ⟨p0, p1, p2, p3, p4, p5, p6⟩ := HTC.out _ HB1.out
   go_upto_region 4 with (fail)
   by_cases h6 : 6 ≤ x.h.kind
   · rw [if_pos h6] at hm0
     subst hm0
     have h6' : (6 : Int) ≤ (x.h.kind : Int) := by omega
     go_wp2_with fail
     go_loopw [4, 20] (fun v4 i wr => ∃ (m k : Nat) (r : Vl), v4 = .int .i64 (m : Nat) ∧ i = .int .i64 (k : Nat) ∧ k + r.len = x.items.len ∧ Hid (lookV x = lookG r m) ∧ m ≤ 16777219 ∧ Hid (Below (w.heap.size + 1) W0 wr) ∧ Hid (RestX ok a2 w r k) ∧ cntX r ≤ cntX x.items ∧ Hid (smX r)) (fun _ k _ => x.items.len - (intOf k).toNat)
     case atStart => exact ⟨1, 0, x.items, rfl, rfl, by omega, HLV2, by omega, HB1, HX, Nat.le_refl _, HSI⟩
     case round =>
      clear HB1 p0 p1 p2 p3 p4 p5 p6 h6'
      obtain ⟨m, k, r, rfl, rfl, hk, HM, hmB, HB, HR, hcn, HF⟩ := hrel
      have HBW : Hid (Below w.heap.size w wr) := HB0.out.trans (HB.out.mono (by omega))
      have hsw := HBW.out.size
      cases r with
      | nil =>
        simp only [Vl.len] at hk
        have hge : ¬ (k : Int) < (x.items.len : Int) := by omega
        have HD : Hid (lookV x = some m) := HM.out
        go_wp2_with fail
        go_ret2
        exact LoP.some HD.out rfl HBW.out
      | cons g kd r =>
        simp only [Vl.len] at hk
        simp only [cntX] at hcn
        have hlt' : (k : Int) < (x.items.len : Int) := by omega
        have hk0 : (0 : Int) ≤ (k : Int) := by omega
        obtain ⟨b, o, rfl, hb, hrow⟩ := HR.out (by simp)
        have HRS : Hid (RestX ok (some ⟨b, o, none⟩) w r (k + 1)) := fun _ => ⟨b, o, rfl, hb, by have := hrow.2.2; rwa [show o + k * 7 + 7 = o + (k + 1) * 7 by omega] at this⟩
        obtain ⟨⟨c0, c1', c2', c3, c4, v5, c5, hs5⟩, ⟨ag, cg, c6, k1, k2, k3⟩, -⟩ := RowX.kept (fun b hb => HBW.out.block b hb.2) _ _ _ hb hrow
        obtain ⟨hsg, hsk, hsr⟩ := HF.out
        have HFR := Lib.hid hsr
        have HNX : Hid (lookV x = match lookV ⟨g, kd⟩ with | none => none | some d => lookG r (max m (d + 1))) := by unfold Hid; rw [HM.out, lookG_cons]; rfl
        have hle : ∀ d, lookV ⟨g, kd⟩ = some d → d ≤ 16777217 := fun d hd => by have := look_le hd; have e : (⟨g, kd⟩ : Va).items = kd := rfl; rw [e] at this; omega
        obtain ⟨av5, cv5, rfl⟩ := hs5.cases
        have KC : Hid (∀ W, Below wr.heap.size wr W → Calls Tryz.prog 50 #[.agg #[.int .u8 (g.kind : Nat), .bool g.b, .int .i64 g.n, .int .u64 (g.bits : Nat), .string g.text, .slice av5 g.keys.length cv5, .slice ag kd.len cg]] W (LoP ⟨g, kd⟩ W)) := fun W hW =>
         IH.out ⟨g, kd⟩ (by show cntX kd < n; omega) (fun b => ok b ∧ b < w.heap.size) _ _ _ _ W ⟨hsg, hsk, by show cntX kd ≤ _; omega⟩ (ValS.kept ⟨hs5, ag, cg, rfl, k1, k2, k3⟩ (fun b hb => hW.block b (by have := hb.2; omega)))
        have HA : Hid (Below wr.heap.size wr (wr.alloc (.cells #[.int .u8 (g.kind : Nat), .bool g.b, .int .i64 g.n, .int .u64 (g.bits : Nat), .string g.text, .slice av5 g.keys.length cv5, .slice ag kd.len cg] 31))) := (Below.refl _ wr).alloc (Nat.le_refl _) _
        have HKI := Lib.hid hk
        have HLE := Lib.hid hle
        have hwz : w.heap.size + 1 ≤ wr.heap.size := by have := HB.out.size; rw [HS0.out] at this; exact this
        clear k3 hrow hsg hsk hsr hk hs5 hle
        go_wp2_with fail
        refine (KC.out _ HA.out).mono ?_
        rintro e w3 ⟨hb3, he⟩
        have HB3 : Hid (Below (w.heap.size + 1) W0 w3) := HB.out.trans ((HA.out.mono hwz).trans (hb3.mono (by simp; omega)))
        clear hb3 KC c0 c1' c2' c3 c4 c5 c6
        generalize hL : lookV ⟨g, kd⟩ = L at *
        cases L with
        | none =>
          obtain rfl := he
          have HD : Hid (lookV x = none) := HNX.out
          go_wp2_with fail
          go_ret2
          exact LoP.none HD.out rfl (HB0.out.trans (HB3.out.mono (by omega)))
        | some d =>
          obtain rfl := he
          have hd := HLE.out d rfl
          have wr1 : IntKind.i64.wrap ((d : Int) + 1) = (d : Int) + 1 := IntWalk.i64_in _ ⟨by omega, by omega⟩
          have HD : Hid (lookV x = lookG r (max m (d + 1))) := HNX.out
          go_wp2_with fail
          go_roundw
          case rel => exact ⟨max m (d + 1), k + 1, r, by congr 1; omega, by go_num, by have := HKI.out; omega, HD, by omega, HB3, HRS, by omega, HFR⟩
          case measure => simp [intOf]; have := HKI.out; omega
   · rw [if_neg h6] at hm0
     subst hm0
     have h6' : ¬ (6 : Int) ≤ (x.h.kind : Int) := by omega
     go_wp2_with fail
     go_loopw [4, 20] (fun v4 i wr => ∃ (m k : Nat) (r : Vl), v4 = .int .i64 (m : Nat) ∧ i = .int .i64 (k : Nat) ∧ k + r.len = x.items.len ∧ Hid (lookV x = lookG r m) ∧ m ≤ 16777219 ∧ Hid (Below (w.heap.size + 1) W0 wr) ∧ Hid (RestX ok a2 w r k) ∧ cntX r ≤ cntX x.items ∧ Hid (smX r)) (fun _ k _ => x.items.len - (intOf k).toNat)
     case atStart => exact ⟨0, 0, x.items, rfl, rfl, by omega, HLV2, by omega, HB1, HX, Nat.le_refl _, HSI⟩
     case round =>
      clear HB1 p0 p1 p2 p3 p4 p5 p6 h6'
      obtain ⟨m, k, r, rfl, rfl, hk, HM, hmB, HB, HR, hcn, HF⟩ := hrel
      have HBW : Hid (Below w.heap.size w wr) := HB0.out.trans (HB.out.mono (by omega))
      have hsw := HBW.out.size
      cases r with
      | nil =>
        simp only [Vl.len] at hk
        have hge : ¬ (k : Int) < (x.items.len : Int) := by omega
        have HD : Hid (lookV x = some m) := HM.out
        go_wp2_with fail
        go_ret2
        exact LoP.some HD.out rfl HBW.out
      | cons g kd r =>
        simp only [Vl.len] at hk
        simp only [cntX] at hcn
        have hlt' : (k : Int) < (x.items.len : Int) := by omega
        have hk0 : (0 : Int) ≤ (k : Int) := by omega
        obtain ⟨b, o, rfl, hb, hrow⟩ := HR.out (by simp)
        have HRS : Hid (RestX ok (some ⟨b, o, none⟩) w r (k + 1)) := fun _ => ⟨b, o, rfl, hb, by have := hrow.2.2; rwa [show o + k * 7 + 7 = o + (k + 1) * 7 by omega] at this⟩
        obtain ⟨⟨c0, c1', c2', c3, c4, v5, c5, hs5⟩, ⟨ag, cg, c6, k1, k2, k3⟩, -⟩ := RowX.kept (fun b hb => HBW.out.block b hb.2) _ _ _ hb hrow
        obtain ⟨hsg, hsk, hsr⟩ := HF.out
        have HFR := Lib.hid hsr
        have HNX : Hid (lookV x = match lookV ⟨g, kd⟩ with | none => none | some d => lookG r (max m (d + 1))) := by unfold Hid; rw [HM.out, lookG_cons]; rfl
        have hle : ∀ d, lookV ⟨g, kd⟩ = some d → d ≤ 16777217 := fun d hd => by have := look_le hd; have e : (⟨g, kd⟩ : Va).items = kd := rfl; rw [e] at this; omega
        obtain ⟨av5, cv5, rfl⟩ := hs5.cases
        have KC : Hid (∀ W, Below wr.heap.size wr W → Calls Tryz.prog 50 #[.agg #[.int .u8 (g.kind : Nat), .bool g.b, .int .i64 g.n, .int .u64 (g.bits : Nat), .string g.text, .slice av5 g.keys.length cv5, .slice ag kd.len cg]] W (LoP ⟨g, kd⟩ W)) := fun W hW =>
         IH.out ⟨g, kd⟩ (by show cntX kd < n; omega) (fun b => ok b ∧ b < w.heap.size) _ _ _ _ W ⟨hsg, hsk, by show cntX kd ≤ _; omega⟩ (ValS.kept ⟨hs5, ag, cg, rfl, k1, k2, k3⟩ (fun b hb => hW.block b (by have := hb.2; omega)))
        have HA : Hid (Below wr.heap.size wr (wr.alloc (.cells #[.int .u8 (g.kind : Nat), .bool g.b, .int .i64 g.n, .int .u64 (g.bits : Nat), .string g.text, .slice av5 g.keys.length cv5, .slice ag kd.len cg] 31))) := (Below.refl _ wr).alloc (Nat.le_refl _) _
        have HKI := Lib.hid hk
        have HLE := Lib.hid hle
        have hwz : w.heap.size + 1 ≤ wr.heap.size := by have := HB.out.size; rw [HS0.out] at this; exact this
        clear k3 hrow hsg hsk hsr hk hs5 hle
        go_wp2_with fail
        refine (KC.out _ HA.out).mono ?_
        rintro e w3 ⟨hb3, he⟩
        have HB3 : Hid (Below (w.heap.size + 1) W0 w3) := HB.out.trans ((HA.out.mono hwz).trans (hb3.mono (by simp; omega)))
        clear hb3 KC c0 c1' c2' c3 c4 c5 c6
        generalize hL : lookV ⟨g, kd⟩ = L at *
        cases L with
        | none =>
          obtain rfl := he
          have HD : Hid (lookV x = none) := HNX.out
          go_wp2_with fail
          go_ret2
          exact LoP.none HD.out rfl (HB0.out.trans (HB3.out.mono (by omega)))
        | some d =>
          obtain rfl := he
          have hd := HLE.out d rfl
          have wr1 : IntKind.i64.wrap ((d : Int) + 1) = (d : Int) + 1 := IntWalk.i64_in _ ⟨by omega, by omega⟩
          have HD : Hid (lookV x = lookG r (max m (d + 1))) := HNX.out
          go_wp2_with fail
          go_roundw
          case rel => exact ⟨max m (d + 1), k + 1, r, by congr 1; omega, by go_num, by have := HKI.out; omega, HD, by omega, HB3, HRS, by omega, HFR⟩
          case measure => simp [intOf]; have := HKI.out; omega
theorem lo_all (n : Nat) : LoSaid n := by
 induction n with
 | zero => intro x h; exact absurd h (Nat.not_lt_zero _)
 | succ n ih => exact lo_step n ih
theorem look_calls (x : Va) (ok : Nat → Prop) (a1 a2 : Option Addr) (c1 c2 : Nat) (w : World) (hs : Va.sm x) (hv : ValS ok w x a1 c1 a2 c2) : Calls Tryz.prog 50 #[.agg #[.int .u8 (x.h.kind : Nat), .bool x.h.b, .int .i64 x.h.n, .int .u64 (x.h.bits : Nat), .string x.h.text, .slice a1 x.h.keys.length c1, .slice a2 x.items.len c2]] w (LoP x w) :=
 lo_all (cntX x.items + 1) x (Nat.lt_succ_self _) ok a1 a2 c1 c2 w hs hv
set_option maxRecDepth 100000 in
set_option maxHeartbeats 40000000 in
theorem jcheck_calls (x : Va) (ok : Nat → Prop) (a1 a2 : Option Addr) (c1 c2 : Nat) (w : World) (hs : Va.sm x) (hv : ValS ok w x a1 c1 a2 c2) : Calls Tryz.prog 29 #[.agg #[.int .u8 (x.h.kind : Nat), .bool x.h.b, .int .i64 x.h.n, .int .u64 (x.h.bits : Nat), .string x.h.text, .slice a1 x.h.keys.length c1, .slice a2 x.items.len c2]] w fun e w' => e = .returned (.int .i64 (chkX x : Nat)) ∧ Below w.heap.size w w' := by
 have LC : Hid (∀ W, Below w.heap.size w W → Calls Tryz.prog 50 #[.agg #[.int .u8 (x.h.kind : Nat), .bool x.h.b, .int .i64 x.h.n, .int .u64 (x.h.bits : Nat), .string x.h.text, .slice a1 x.h.keys.length c1, .slice a2 x.items.len c2]] W (LoP x W)) := fun W hW =>
  look_calls x (fun b => ok b ∧ b < w.heap.size) a1 a2 c1 c2 W hs (hv.lt.kept (fun b hb => hW.block b hb.2))
 have HC := Lib.hid (chk_look x)
 have HB0 : Hid (Below w.heap.size w (w.alloc (.cells (xCells x.h (.slice a1 x.h.keys.length c1) (.slice a2 x.items.len c2)) 31))) := (Below.refl _ w).alloc (Nat.le_refl _) _
 unfold xCells at HB0
 clear hv hs
 go_enter Tryz.func29, Tryz.ntmps29
 go_wp2_with fail
 refine (LC.out _ HB0.out).mono ?_
 rintro e w1 ⟨hb1, he⟩
 have HB1 : Hid (Below w.heap.size w w1) := HB0.out.trans (hb1.mono (by simp))
 clear hb1 LC
 generalize lookV x = L at *
 cases L with
 | none =>
   obtain rfl := he
   have HCC : Hid (chkX x = 160) := HC.out
   go_wp2_with fail
   go_ret
   exact ⟨by rw [HCC.out]; rfl, HB1.out⟩
 | some d =>
   obtain rfl := he
   by_cases h : d > 64
   · have HCC : Hid (chkX x = 161) := by unfold Hid; rw [HC.out]; simp [h]
     have h' : (64 : Int) < (d : Int) := by omega
     go_wp2_with fail
     go_ret
     exact ⟨by rw [HCC.out]; rfl, HB1.out⟩
   · have HCC : Hid (chkX x = 0) := by unfold Hid; rw [HC.out]; simp [h]
     have h' : ¬ (64 : Int) < (d : Int) := by omega
     go_wp2_with fail
     go_ret
     exact ⟨by rw [HCC.out]; rfl, HB1.out⟩
end Go.Proofs.YtepcpgdfbaklfaaGreatDoor
