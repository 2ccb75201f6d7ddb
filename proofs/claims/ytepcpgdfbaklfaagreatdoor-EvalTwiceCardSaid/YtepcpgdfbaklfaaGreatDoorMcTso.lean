/- The contract of tmpl.source. The condition: the template's sizes take at most 2 to the 24th bytes. -/
import Derived.Test.YtepcpgdfbaklfaaGreatDoorMcTw6
import Derived.Test.YtepcpgdfbaklfaaGreatDoorMcTrc
import Derived.Test.YtepcpgdfbaklfaaGreatDoorMcLibv
import Derived.Maps.OwnOps
import Derived.Maps.Views
set_option linter.unusedSimpArgs false
set_option linter.unusedVariables false
namespace Go.Proofs.YtepcpgdfbaklfaaGreatDoor
open Go.RowKit Go.Shelf
attribute [local go_sem ↓] Go.wp_at_zero Go.wp_at_succ
structure TmZ (t : Tm) : Prop where
 main : t.main.sm
 defs : ∀ d ∈ t.defs, d.name.size ≤ 16777216 ∧ d.kids.sm
 sum : t.main.cnt + (t.defs.map fun d => d.kids.cnt).sum ≤ 16000000
 len : t.defs.length ≤ 16777216
 src : t.src.length ≤ 16777216
theorem sum_mem {l : List Df} {d : Df} (h : d ∈ l) : d.kids.cnt ≤ (l.map fun d => d.kids.cnt).sum := by
 induction l with
 | nil => cases h
 | cons x l ih =>
   simp only [List.map_cons, List.sum_cons]
   rcases List.mem_cons.1 h with rfl | h
   · omega
   · have := ih h; omega
theorem drop_defS (l : List Df) (k : Nat) (d : Df) (h : l[k]? = some d) : (l.drop k).flatMap defS = defS d ++ (l.drop (k + 1)).flatMap defS := by
 have hlt := (List.getElem?_eq_some_iff.1 h).1
 rw [List.drop_eq_getElem_cons hlt]
 have : l[k] = d := (List.getElem?_eq_some_iff.1 h).2
 rw [this]; rfl
set_option maxRecDepth 100000 in
set_option maxHeartbeats 8000000 in
theorem source_calls (t : Tm) (hz : TmZ t) (vm vd : Value) (w : World) (hp : Parts (· < w.heap.size) w vm t.main) (hd : Defs (· < w.heap.size) w vd t.defs) :
 Calls Tryz.prog 40 #[.agg #[vm, vd]] w fun e w' => e = .returned (.string (mkB t.src)) ∧ Below w.heap.size w w' := by
 obtain ⟨main, defs⟩ := t
 obtain ⟨z1, z2, z3, z4, z5⟩ := hz
 dsimp only at z1 z2 z3 z4 hp hd
 obtain ⟨am, cm, rfl, m1, m2, m3⟩ := hp
 obtain ⟨a, c, rfl, h1, h2, h3⟩ := hd
 have hc64 : c ≤ 9223372036854775807 := by unfold maxLen at h2; exact h2
 obtain ⟨b, o, hrow⟩ : ∃ b o, (defs ≠ [] → a = some ⟨b, o, none⟩ ∧ b < w.heap.size ∧ DRow (· < w.heap.size) w defs b o) := by
  by_cases hn : defs = []
  · exact ⟨0, 0, fun h => absurd hn h⟩
  · obtain ⟨b, o, h⟩ := h3 hn
    exact ⟨b, o, fun _ => h⟩
 have HR := Lib.hid hrow
 have HM : Hid (Parts (· < w.heap.size) w (.slice am main.len cm) main) := ⟨am, cm, rfl, m1, m2, m3⟩
 have HT : Hid (Tm.src ⟨main, defs⟩ = defs.flatMap defS ++ main.src false) := rfl
 have HZ5 := Lib.hid z5
 have HZ2 := Lib.hid z2
 have HZ1 := Lib.hid z1
 have hmc : main.cnt ≤ 16777216 := by omega
 have HSU := Lib.hid z3
 have HB0 : Hid (Below w.heap.size w ((w.alloc (.cells #[.slice am main.len cm, .slice a defs.length c] 25)).alloc (.cells #[.pointer none, .slice none 0 0] 136))) := ((Below.refl _ w).alloc (Nat.le_refl _) _).alloc (by simp) _
 have HBD0 : Hid (Bdf (w.heap.size + 1) (w.heap.size + 1) [] ((w.alloc (.cells #[.slice am main.len cm, .slice a defs.length c] 25)).alloc (.cells #[.pointer none, .slice none 0 0] 136))) := by
  have := Bdf.fresh (w.alloc (.cells #[.slice am main.len cm, .slice a defs.length c] 25))
  rwa [show (w.alloc (.cells #[.slice am main.len cm, .slice a defs.length c] 25)).heap.size = w.heap.size + 1 by simp] at this
 have HX0 : Hid (((w.alloc (.cells #[.slice am main.len cm, .slice a defs.length c] 25)).alloc (.cells #[.pointer none, .slice none 0 0] 136)).heap[w.heap.size]? = some (.cells #[.slice am main.len cm, .slice a defs.length c] 25 (0, 0))) := by
  unfold Hid; rw [Below.heap_alloc _ _ _ (by simp)]; exact heap_alloc_new w _
 have HS0 : Hid (((w.alloc (.cells #[.slice am main.len cm, .slice a defs.length c] 25)).alloc (.cells #[.pointer none, .slice none 0 0] 136)).heap.size = w.heap.size + 2) := by unfold Hid; simp
 clear h3 hrow m3 z1 z2 z3 z5
 go_enter Tryz.func40, Tryz.ntmps40
 go_wp2_with fail
 generalize hW : World.alloc (World.alloc w _) _ = W1 at *
 clear hW
 go_loopw [9] (fun i wr => ∃ (k : Nat) (l' : By), i = .int .i64 k ∧ k ≤ defs.length ∧ Hid (Bdf (w.heap.size + 1) (w.heap.size + 1) l' wr) ∧ Hid (Wr (w.heap.size + 1) (w.heap.size + 1) W1 wr) ∧ Hid (l' ++ (defs.drop k).flatMap defS ++ main.src false = Tm.src ⟨main, defs⟩)) (fun i _ => defs.length - (intOf i).toNat)
 case atStart => exact ⟨0, [], rfl, Nat.zero_le _, HBD0, Wr.refl _ _ _, by unfold Hid; rw [HT.out]; rfl⟩
 case round =>
  obtain ⟨k, l', rfl, hk, HBD, HWR, HE⟩ := hrel
  have HBW := Lib.hid (HB0.out.trans (HWR.out.1.mono (Nat.le_succ _)))
  have hsz : w.heap.size + 2 ≤ wr.heap.size := by have := HWR.out.size; have := HS0.out; omega
  have x0 : wr.cell? ⟨w.heap.size, 0, none⟩ = some (.slice am main.len cm) := by rw [cell_of_heap' ((HWR.out.1.block _ (by omega)).trans HX0.out)]; rfl
  by_cases hlt : k < defs.length
  · have hlt' : (k : Int) < (defs.length : Int) := by omega
    obtain ⟨d, hdk⟩ : ∃ d, defs[k]? = some d := ⟨_, List.getElem?_eq_getElem hlt⟩
    obtain ⟨rfl, hbB, hrow⟩ := HR.out (by intro e; rw [e] at hlt; simp at hlt)
    obtain ⟨g0, g1, v, g2, hpd⟩ := DRow.at _ _ _ _ _ hdk (hrow.kept (Kept.of_below HBW.out) _ _ _ hbB)
    have hdm : d ∈ defs := List.mem_of_getElem? hdk
    obtain ⟨zn, zk⟩ := HZ2.out d hdm
    have hcd := sum_mem hdm
    have hcd2 : d.kids.cnt ≤ 16777216 := by have := HSU.out; omega
    have HLT : Hid (l'.length + (defS d).length ≤ 16777216) := by
     have h1 := HZ5.out
     have h2 := congrArg List.length HE.out
     rw [drop_defS _ _ _ hdk] at h2
     simp only [List.length_append] at h2
     unfold Hid; omega
    have HE2 : Hid ((l' ++ defS d) ++ (defs.drop (k + 1)).flatMap defS ++ main.src false = Tm.src ⟨main, defs⟩) := by
     have := HE.out
     rw [drop_defS _ _ _ hdk] at this
     unfold Hid; rw [← this]; simp
    obtain ⟨ad, cd, rfl, d1, d2, d3⟩ := hpd
    have HPD : Hid (Parts (· < w.heap.size) wr (.slice ad d.kids.len cd) d.kids) := ⟨ad, cd, rfl, d1, d2, d3⟩
    have HZK := Lib.hid zk
    have HS1 : Hid (Wr (w.heap.size + 1) (w.heap.size + 1) wr (wr.alloc (.cells #[.string d.name, .int .i64 d.pos, .slice ad d.kids.len cd] 70))) := Wr.alloc wr _ (by omega)
    have HBD1 := Lib.hid (HBD.out.below ((Below.refl _ wr).alloc (Nat.le_refl _) (.cells #[.string d.name, .int .i64 d.pos, .slice ad d.kids.len cd] 70)))
    have HD1 : Hid ((wr.alloc (.cells #[.string d.name, .int .i64 d.pos, .slice ad d.kids.len cd] 70)).heap[wr.heap.size]? = some (.cells #[.string d.name, .int .i64 d.pos, .slice ad d.kids.len cd] 70 (0, 0))) := heap_alloc_new wr _
    clear hdk hrow d3 zk hlt x0 hdm
    go_upto_region 5 with (fail)
    clear g0 g1 g2
    generalize hW2 : World.alloc wr _ = W2 at *
    clear hW2
    have q0 : W2.cell? ⟨wr.heap.size, 0, none⟩ = some (.string d.name) := by rw [cell_of_heap' HD1.out]; rfl
    have HN : Hid (((⟨#[123, 123, 100, 101, 102, 105, 110, 101, 32]⟩ ++ d.name) ++ ⟨#[125, 125]⟩ : ByteArray).size = d.name.size + 11) := by
     unfold Hid; rw [ByteArray.size_append, ByteArray.size_append]
     have : (⟨#[123, 123, 100, 101, 102, 105, 110, 101, 32]⟩ : ByteArray).size = 9 := rfl
     have : (⟨#[125, 125]⟩ : ByteArray).size = 2 := rfl
     omega
    have HLD : Hid ((defS d).length = d.name.size + 11 + (d.kids.src false).length + 7) := by
     unfold Hid; simp [defS, bra, ket, kDef, endS, bl]
     all_goals omega
    have C1 := Lib.hid (writeString_calls (w.heap.size + 1) (w.heap.size + 1) l' (⟨#[123, 123, 100, 101, 102, 105, 110, 101, 32]⟩ ++ d.name ++ ⟨#[125, 125]⟩) W2 HBD1.out (by have := HLT.out; have := HLD.out; have := HN.out; omega) (by have := HS1.out.size; omega))
    go_wp2_with fail
    refine C1.out.mono ?_
    rintro e w3 ⟨rfl, hb3, hw3⟩
    have HB3 := Lib.hid hb3
    have HW3 := Lib.hid hw3
    clear hb3 hw3 q0 C1
    have HL3 : Hid ((l' ++ bl (⟨#[123, 123, 100, 101, 102, 105, 110, 101, 32]⟩ ++ d.name ++ ⟨#[125, 125]⟩)).length = l'.length + (d.name.size + 11)) := by
     unfold Hid; rw [List.length_append]; have := HN.out; simp [bl] at this ⊢
     all_goals omega
    have q2 : w3.cell? ⟨wr.heap.size, 2, none⟩ = some (.slice ad d.kids.len cd) := by rw [cell_of_heap' (HW3.out.block HD1.out (by omega) (by decide))]; rfl
    have C2 := Lib.hid (write_calls d.kids (w.heap.size + 1) (w.heap.size + 1) _ (.slice ad d.kids.len cd) w3 HZK.out hcd2 (by have := HLT.out; have := HLD.out; have := HL3.out; omega)
     ((HPD.out.kept (Kept.of_below ((HS1.out.1.mono (Nat.le_succ _)).trans (HW3.out.1.mono (Nat.le_succ _))))).mono (fun b hb => Nat.lt_succ_of_lt hb)) HB3.out (by have := HS1.out.size; have := HW3.out.size; omega))
    go_wp2_with fail
    refine C2.out.mono ?_
    rintro e w4 ⟨rfl, hb4, hw4⟩
    have HB4 := Lib.hid hb4
    have HW4 := Lib.hid hw4
    clear hb4 hw4 q2 C2
    have C3 := Lib.hid (writeString_calls (w.heap.size + 1) (w.heap.size + 1) _ ⟨#[123, 123, 101, 110, 100, 125, 125]⟩ w4 HB4.out (by
     have := HLT.out; have := HLD.out; have := HL3.out
     rw [List.length_append]
     have : (⟨#[123, 123, 101, 110, 100, 125, 125]⟩ : ByteArray).size = 7 := rfl
     omega) (by have := HS1.out.size; have := HW3.out.size; have := HW4.out.size; omega))
    go_wp2_with fail
    refine C3.out.mono ?_
    rintro e w5 ⟨rfl, hb5, hw5⟩
    have HB5 : Hid (Bdf (w.heap.size + 1) (w.heap.size + 1) (l' ++ defS d) w5) := by
     have := hb5
     rw [show l' ++ bl (⟨#[123, 123, 100, 101, 102, 105, 110, 101, 32]⟩ ++ d.name ++ ⟨#[125, 125]⟩) ++ d.kids.src false ++ bl ⟨#[123, 123, 101, 110, 100, 125, 125]⟩ = l' ++ defS d by simp [defS, bl, bra, ket, kDef, endS]] at this
     exact this
    have HW5 := Lib.hid hw5
    clear hb5 hw5 C3
    go_wp2_with fail
    go_roundw
    case rel => exact ⟨k + 1, l' ++ defS d, by go_num, by omega, HB5, HWR.out.trans (HS1.out.trans (HW3.out.trans (HW4.out.trans HW5.out))), HE2⟩
    case measure => simp [intOf]; omega
  · have hge : ¬ (k : Int) < (defs.length : Int) := by omega
    have HE2 : Hid (l' ++ main.src false = Tm.src ⟨main, defs⟩) := by
     have := HE.out
     rw [List.drop_of_length_le (by omega)] at this
     unfold Hid; simpa using this
    have C2 := Lib.hid (write_calls main (w.heap.size + 1) (w.heap.size + 1) l' (.slice am main.len cm) wr HZ1.out hmc (by have h1 := HZ5.out; have h2 := congrArg List.length HE2.out; rw [List.length_append] at h2; omega)
     ((HM.out.kept (Kept.of_below HBW.out)).mono (fun b hb => Nat.lt_succ_of_lt hb)) HBD.out (by omega))
    go_wp2_with fail
    refine C2.out.mono ?_
    rintro e w3 ⟨rfl, hb3, hw3⟩
    rw [HE2.out] at hb3
    have HB3 := Lib.hid hb3
    have HW3 := Lib.hid hw3
    clear hb3 hw3 C2
    have C3 := Lib.hid (string_calls (w.heap.size + 1) (w.heap.size + 1) _ w3 HB3.out (by have := HW3.out.size; omega))
    go_wp2_with fail
    refine C3.out.mono ?_
    rintro e w4 ⟨rfl, hb4⟩
    have HW4 := Lib.hid hb4
    clear hb4 C3
    go_wp2_with fail
    go_ret
    exact ⟨rfl, HBW.out.trans ((HW3.out.1.mono (Nat.le_succ _)).trans (HW4.out.mono (Nat.le_succ _)))⟩
theorem checkF_idle (pe : Addr) (w : World) :
 CallsD Tryz.prog 37 #[.pointer (some pe)] .returning w fun e u' w' => e = .returned (.tuple #[]) ∧ u' = .returning ∧ w' = w := by
 refine callsD_of_wpS Tryz.func37 rfl fun c₀ cs hu => ?_
 simp only [Tryz.ntmps37, List.size_toArray, List.length_cons, List.length_nil, Nat.reduceAdd, Nat.reduceSub, Array.replicate_succ, Array.replicate_zero, List.push_toArray, List.append_toArray, List.nil_append, List.cons_append]
 apply wpS_seq
 apply wpS_region
 simp [wpOpsS, go_sem, recoverD, hu, Exit.thenS]
 refine wpS_of_wp ?_
 generalize hQ : (fun e a' w' => bodyPostS _ _ _ _ _ e a' _ w') = Q
 have HQ := Lib.hid hQ
 clear hQ
 go_wp2_with fail
 rw [← HQ.out]
 refine ⟨rfl, .returning, ?_, .tuple #[], ?_, rfl, rfl, rfl⟩
 · cases c₀; simp_all
 · simp [results, Tryz.results37]
set_option maxRecDepth 100000 in
theorem checkF_catch (be : Nat) (ve : Value) (n p : Int) (w : World) (he : w.heap[be]? = some (.cells #[ve] 37 (0, 0))) :
 CallsD Tryz.prog 37 #[.pointer (some ⟨be, 0, none⟩)] (.panicking [{ v := .iface 84 (.agg #[.int .i64 n, .int .i64 p]), recovered := false }]) w fun e u' w' =>
  e = .returned (.tuple #[]) ∧ u' = .panicking [{ v := .iface 84 (.agg #[.int .i64 n, .int .i64 p]), recovered := true }] ∧ w'.heap[be]? = some (.cells #[.int .i64 n] 37 (0, 0)) ∧ Gr be w w' := by
 have hnil := fun w => run_eql_iface_nil (P := Tryz.prog) w (tx := 84) (.agg #[.int .i64 n, .int .i64 p]) Tryz.underlying20
 have hass := assert_wrong (.agg #[.int .i64 n, .int .i64 p])
 have d0 : w.cell? ⟨be, 0, none⟩ = some ve := by rw [cell_of_heap' he]; rfl
 have fe := frozen_cells he
 have hbe := lt_of_block he
 have HE := Lib.hid he
 clear he
 refine callsD_of_wpS Tryz.func37 rfl fun c₀ cs hu => ?_
 simp only [Tryz.ntmps37, List.size_toArray, List.length_cons, List.length_nil, Nat.reduceAdd, Nat.reduceSub, Array.replicate_succ, Array.replicate_zero, List.push_toArray, List.append_toArray, List.nil_append, List.cons_append]
 apply wpS_seq
 apply wpS_region
 simp [wpOpsS, go_sem, recoverD, hu, Exit.thenS]
 refine wpS_of_wp ?_
 generalize hQ : (fun e a' w' => bodyPostS _ _ _ _ _ e a' _ w') = Q
 have HQ := Lib.hid hQ
 have HU := Lib.hid hu
 clear hQ hu
 have n3 : ¬ be = w.heap.size := by omega
 go_wp2_with fail
 show Q Exit.normal _ _
 rw [← HQ.out]
 refine ⟨rfl, _, rfl, .tuple #[], by simp [results, Tryz.results37], rfl, rfl, ?_, (Gr.set w 0 _).trans (Gr.alloc _ _)⟩
 exact (Below.heap_alloc _ _ _ (by simp [World.setCell]; omega)).trans (set_cells HE.out _)
theorem results_check {w : World} {tmps : Array Value} {be : Nat} {z : Value} (h2 : tmps.getD 2 undef = .pointer (some ⟨be, 0, none⟩))
 (he : w.heap[be]? = some (.cells #[z] 37 (0, 0))) : (results Tryz.f22 tmps).run Tryz.prog w = .ok z w := by
 have d0 : w.cell? ⟨be, 0, none⟩ = some z := by rw [cell_of_heap' he]; rfl
 have h2' : tmps[2]?.getD undef = .pointer (some ⟨be, 0, none⟩) := by rw [← h2]; simp
 clear he
 simp [results, Tryz.results22, h2', go_sem, d0]
def closeK (be : Nat) : List Deferred := [{ target := .fn (.func 37) #[.pointer (some ⟨be, 0, none⟩)], args := #[] }]
theorem check_panic {R : Ending → World → Prop} {a : Act} {W : World} {be : Nat} {ve : Value} (n p : Int) (hd : a.defers = closeK be) (h2 : a.tmps.getD 2 undef = .pointer (some ⟨be, 0, none⟩))
 (he : W.heap[be]? = some (.cells #[ve] 37 (0, 0)))
 (hR : ∀ w', Gr be W w' → R (.returned (.int .i64 n)) w') :
 bodyPostD Tryz.prog Tryz.f22 R (.panic [{ v := .iface 84 (.agg #[.int .i64 n, .int .i64 p]), recovered := false }]) a W := by
 show Leaves _ _ _ _ a.defers _ _
 rw [hd]
 refine leaves_cons (f := 37) (args := #[.pointer (some ⟨be, 0, none⟩)]) (by simp) (by simp [go_sem]) ?_
 refine (checkF_catch be ve n p W he).mono ?_
 rintro e u' w'' ⟨rfl, rfl, c1, c2⟩
 exact ⟨_, results_check h2 c1, hR w'' c2⟩
theorem check_return {R : Ending → World → Prop} {a : Act} {W : World} {be : Nat} {ve : Value} (hd : a.defers = closeK be) (h2 : a.tmps.getD 2 undef = .pointer (some ⟨be, 0, none⟩))
 (he : W.heap[be]? = some (.cells #[ve] 37 (0, 0))) (hR : R (.returned ve) W) :
 bodyPostD Tryz.prog Tryz.f22 R .ret a W := by
 show Leaves _ _ _ _ a.defers _ _
 rw [hd]
 refine leaves_cons (f := 37) (args := #[.pointer (some ⟨be, 0, none⟩)]) (by simp) (by simp [go_sem]) ?_
 refine (checkF_idle ⟨be, 0, none⟩ W).mono ?_
 rintro e u' w'' ⟨rfl, rfl, rfl⟩
 exact ⟨_, results_check h2 he, hR⟩
open Go.RowKit Go.Shelf Go.Maps Go.WideMaps
theorem twice_snocK (l : List By) (x : By) : twice (l ++ [x]) = (twice l || l.contains x) := by
 induction l with
 | nil => simp [twice]
 | cons y l ih =>
   simp only [List.cons_append, twice, ih, List.contains_cons]
   have e : (l ++ [x]).contains y = (l.contains y || (x == y)) := by
    rw [Bool.eq_iff_iff, Bool.or_eq_true, beq_iff_eq, List.contains_iff_mem, List.contains_iff_mem, List.mem_append, List.mem_singleton]; exact ⟨fun h => h.imp id Eq.symm, fun h => h.imp id Eq.symm⟩
   rw [e]
   have e2 : (x == y) = (y == x) := by rw [Bool.eq_iff_iff, beq_iff_eq, beq_iff_eq]; exact ⟨Eq.symm, Eq.symm⟩
   rw [e2]
   cases (l.contains y) <;> cases (twice l) <;> cases (l.contains x) <;> simp
def okD (d : Df) : Bool := nameOk (bl d.name) && d.kids.form false
def deepD (l : List Df) : Nat := (l.map fun d => 1 + d.kids.deep).foldr max 0
def cntD (l : List Df) : Nat := (l.map fun d => d.kids.cnt).sum
theorem deepD_cons (d : Df) (l : List Df) : deepD (d :: l) = max (1 + d.kids.deep) (deepD l) := rfl
theorem cntD_cons (d : Df) (l : List Df) : cntD (d :: l) = d.kids.cnt + cntD l := by simp [cntD]
def endK (m D : Nat) (tw N : Bool) (n : Nat) : Nat := if 64 < D then 193 else if tw = true then 194 else if N = true then 195 else if 1024 < m ∨ 16384 < n then 196 else 0
theorem check_end (t : Tm) (h1 : t.main.form true = true) (h2 : t.defs.all okD = true) : t.check = endK (t.main.cnt + cntD t.defs) (max t.main.deep (deepD t.defs)) (twice (t.defs.map fun d => bl d.name)) (!(t.main.called t.defs && t.defs.all fun d => d.kids.called t.defs)) t.src.length := by
 unfold Tm.check endK
 have h3 : ¬ ((t.main.form true && t.defs.all fun d => nameOk (bl d.name) && d.kids.form false) = false) := by
  rw [h1, show (t.defs.all fun d => nameOk (bl d.name) && d.kids.form false) = true from h2]; simp
 rw [if_neg h3]
 unfold cntD deepD
 cases (t.main.called t.defs && t.defs.all fun d => d.kids.called t.defs) <;> simp
theorem check_bad1 (t : Tm) (h : t.main.form true = false) : t.check = 190 := by unfold Tm.check; rw [if_pos (by rw [h]; rfl)]
theorem check_bad2 (t : Tm) (d : Df) (hd : d ∈ t.defs) (h : okD d = false) : t.check = 190 := by
 unfold Tm.check
 rw [if_pos]
 rw [Bool.and_eq_false_iff]
 right
 rw [List.all_eq_false]
 exact ⟨d, hd, by unfold okD at h; rw [h]; simp⟩
theorem lit_inj {a b : Int} (h : (DataW.lit (.int .i64 a) : DataW Unit) = .lit (.int .i64 b)) : a = b := by
 have h1 := DataW.lit.inj h
 exact (Lit.int.inj h1).2
def SeenD (D : DataW Unit) (l : List By) (k : Nat) : Prop := IsMap D ∧ ∀ x : By, ∃ c : Int, D.atKey (.string x) (.lit (.int .i64 0)) = .lit (.int .i64 c) ∧ 0 ≤ c ∧ c ≤ k ∧ (1 ≤ c ↔ l.contains x = true)
theorem SeenD.empty : SeenD (.map []) [] 0 := ⟨isMap_empty, fun x => ⟨0, rfl, by omega, by omega, by simp⟩⟩
theorem SeenD.put {D : DataW Unit} {l : List By} {k : Nat} (h : SeenD D l k) (x : By) (c : Int) (hc : D.atKey (.string x) (.lit (.int .i64 0)) = .lit (.int .i64 c)) : SeenD (D.put (.string x) (.lit (.int .i64 (c + 1)))) (l ++ [x]) (k + 1) := by
 obtain ⟨h1, h2⟩ := h
 refine ⟨h1.put _ _, fun y => ?_⟩
 by_cases e : y = x
 · subst e
   obtain ⟨c', q1, q2, q3, q4⟩ := h2 y
   have : c' = c := lit_inj (q1.symm.trans hc)
   subst this
   refine ⟨c' + 1, atKey_put_same h1 (by first | trivial | decide | simp [WideAt.IsKeyLit]) _ _, by omega, by omega, ?_⟩
   simp; omega
 · obtain ⟨c', q1, q2, q3, q4⟩ := h2 y
   refine ⟨c', (atKey_put_other (by intro e2; apply e; injection e2) _ _).trans q1, q2, by omega, ?_⟩
   rw [q4]; simp [e]
def MapS (M k : Nat) (l : List By) (w : World) : Prop := ∃ D, w.ownsMap Tryz.prog 9 (plainElem Tryz.prog 3) M k D ∧ SeenD D l k
theorem MapS.gr {M k : Nat} {l : List By} {w w' : World} {bx : Nat} (h : MapS M k l w) (hg : Gr bx w w') (hn : M ≠ bx) : MapS M k l w' := by
 obtain ⟨D, h1, h2⟩ := h
 exact ⟨D, h1.kept hg (by intro e; injection e with e; exact hn e), h2⟩
theorem MapS.lt {M k : Nat} {l : List By} {w : World} (h : MapS M k l w) : M < w.heap.size := by
 obtain ⟨D, h1, h2⟩ := h
 exact h1.lt
theorem MapS.made (w : World) : MapS w.heap.size 0 [] (w.alloc (.map #[] 0)) := ⟨_, World.ownsMap_made w _ _ _, SeenD.empty⟩
theorem str_law : Keyed Tryz.prog 9 := string_keyed Tryz.underlying9
theorem zero_int (w : World) : (zeroValue 3).run Tryz.prog w = .ok (.int .i64 0) w := by kernel_rfl
theorem MapS.look {M k : Nat} {l : List By} {w : World} (h : MapS M k l w) (s : ByteArray) (hs : s.size ≤ maxLen) :
 ∃ c : Int, (Instr.lookup 89 (.map (some M)) (.string s) false).run Tryz.prog w = .ok (.int .i64 c) w ∧ 0 ≤ c ∧ c ≤ k ∧ (1 ≤ c ↔ l.contains (bl s) = true) := by
 obtain ⟨D, h1, h2, h3⟩ := h
 obtain ⟨c, e1, e2, e3⟩ := h1.lookup_int str_law Tryz.underlying89 Tryz.underlying3 (zero_int w) (keyOf_string_mk Tryz.underlying9 hs)
 obtain ⟨c', q1, q2, q3, q4⟩ := h3 (bl s)
 have : c' = c := lit_inj (q1.symm.trans e2)
 subst this
 exact ⟨c', e1, q2, q3, q4⟩
theorem MapS.store {M k : Nat} {l : List By} {w : World} (h : MapS M k l w) (hk : k ≤ 16777216) (s : ByteArray) (hs : s.size ≤ maxLen) :
 ∃ c : Int, (Instr.lookup 89 (.map (some M)) (.string s) false).run Tryz.prog w = .ok (.int .i64 c) w ∧ 0 ≤ c ∧ c ≤ k ∧ (1 ≤ c ↔ l.contains (bl s) = true) ∧
   ∃ w', (Instr.mapUpdate 89 (.map (some M)) (.string s) (.int .i64 (c + 1))).run Tryz.prog w = .ok () w' ∧ MapS M (k + 1) (l ++ [bl s]) w' ∧ w.grownBy w' (some M) ∧
     (Instr.lookup 89 (.map (some M)) (.string s) false).run Tryz.prog w' = .ok (.int .i64 (c + 1)) w' := by
 obtain ⟨D, h1, h2, h3⟩ := h
 obtain ⟨c, e1, e2, e3⟩ := h1.lookup_int str_law Tryz.underlying89 Tryz.underlying3 (zero_int w) (keyOf_string_mk Tryz.underlying9 hs)
 have e2' : D.atKey (.string (bl s)) (.lit (.int .i64 0)) = .lit (.int .i64 c) := e2
 obtain ⟨c', q1, q2, q3, q4⟩ := h3 (bl s)
 have : c' = c := lit_inj (q1.symm.trans e2')
 subst this
 obtain ⟨w', u1, u2, u3⟩ := h1.update str_law Tryz.underlying89 (by unfold maxLen; omega) (keyOf_string_mk Tryz.underlying9 hs) (plainElem_int Tryz.underlying3 (a := c' + 1) (by show (decide _ && decide _) = true; rw [Bool.and_eq_true]; exact ⟨decide_eq_true (by show (-9223372036854775808 : Int) ≤ c' + 1; omega), decide_eq_true (by show c' + 1 ≤ (9223372036854775807 : Int); omega)⟩))
 refine ⟨c', e1, q2, q3, q4, w', u1, ⟨_, u2, SeenD.put ⟨h2, h3⟩ (bl s) c' e2'⟩, u3, ?_⟩
 obtain ⟨c2, f1, f2, f3⟩ := u2.lookup_int str_law Tryz.underlying89 Tryz.underlying3 (zero_int w') (keyOf_string_mk Tryz.underlying9 hs)
 have f2' : (D.put (.string (bl s)) (.lit (.int .i64 (c' + 1)))).atKey (.string (bl s)) (.lit (.int .i64 0)) = .lit (.int .i64 c2) := f2
 rw [atKey_put_same h2 (by first | trivial | decide | simp [WideAt.IsKeyLit])] at f2'
 have : c' + 1 = c2 := lit_inj f2'
 subst this
 exact f1
end Go.Proofs.YtepcpgdfbaklfaaGreatDoor
