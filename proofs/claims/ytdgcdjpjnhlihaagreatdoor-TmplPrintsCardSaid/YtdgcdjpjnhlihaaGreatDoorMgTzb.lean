/-
  The walk of lacunalaw19.TmplBack. The condition: the listed variables read as they were laid; MaxLen holds some number; lists and texts of at most 2 to the 47th bytes.
-/
/-
  The wrap of a row that lists the tables of unicode/utf8 and errors.errorType, with the world's shape and the form's reach at hand; a world that meets the condition; what the walks ask out of what the row lists. No condition.
-/
/-
  A template that came in, opened: what can be read as data is parts and templates in memory, of the form's own reach. No condition.
-/
import Derived.Test.YtdgcdjpjnhlihaaGreatDoorTwkM
import Derived.Test.YtdgcdjpjnhlihaaGreatDoorMgTg1
import Derived.Test.YtdgcdjpjnhlihaaGreatDoorMgTrq
import Derived.Test.YtdgcdjpjnhlihaaGreatDoorRows
import Derived.Test.YtdgcdjpjnhlihaaGreatDoorTasM
import Derived.WalkKit
import Derived.ProofKit
import Derived.OpenShut
import Derived.ShutString
import Derived.ChangeOld
import Derived.Below
import Derived.HandedShaped
import Derived.LaidLaws
import Derived.LaidHandle
import GoSem.PinnedTables
import Derived.KernelRfl
import Derived.Lay
import Derived.Lib.LaidU8T
import Derived.ChangeSlices
import Derived.Carry
import Derived.Deep.Slices
import Derived.Lib.SmallJoins
set_option linter.unusedSimpArgs false
set_option linter.unusedVariables false
namespace Go.Proofs.YtdgcdjpjnhlihaaGreatDoor
open Go.RowKit Go.Shelf
attribute [local go_sem ↓] Go.wp_at_zero Go.wp_at_succ

/-- A template as an argument, in blocks that were there. -/
structure TmIn (t : Tm) (vm vd : Value) (w : World) : Prop where
  wide : TmW t
  main : Parts (· < w.heap.size) w vm t.main
  defs : Defs (· < w.heap.size) w vd t.defs
theorem TmIn.mainAt {t : Tm} {vm vd : Value} {w W : World} (h : TmIn t vm vd w) (hW : Below w.heap.size w W) : Parts (· < W.heap.size) W vm t.main := (h.main.kept (Kept.of_below hW)).mono (fun b hb => Nat.lt_of_lt_of_le hb hW.size)
theorem TmIn.defsAt {t : Tm} {vm vd : Value} {w W : World} (h : TmIn t vm vd w) (hW : Below w.heap.size w W) : Defs (· < W.heap.size) W vd t.defs := (h.defs.kept (Kept.of_below hW)).mono (fun b hb => Nat.lt_of_lt_of_le hb hW.size)
set_option maxRecDepth 100000 in
set_option maxHeartbeats 20000000 in
theorem tmplBack_walk (t : Tm) (vm vd : Value) (w : World) (hi : TmIn t vm vd w) (hg : Gd w) (he : Eg w) : Calls Tryz.prog 4 #[.agg #[vm, vd]] w fun e w' => e = .returned (.bool true) ∧ Below w.heap.size w w' := by
  have HB0 : Hid (Below w.heap.size w (w.alloc (.cells #[vm, vd] 25))) := (Below.refl w.heap.size w).alloc (Nat.le_refl _) _
  have HT0 : Hid ((w.alloc (.cells #[vm, vd] 25)).heap[w.heap.size]? = some (.cells #[vm, vd] 25 (0, 0))) := heap_alloc_new w _
  have HS0 : Hid ((w.alloc (.cells #[vm, vd] 25)).heap.size = w.heap.size + 1) := by unfold Hid; simp
  have WK : Hid (∀ W, Below w.heap.size w W → Calls Tryz.prog 8 #[] W fun e w' => e = .returned (.bool true) ∧ Below W.heap.size W w') := fun W hW => works_calls W (hg.below hW) (he.below hW)
  have WG : Hid (∀ W, Below w.heap.size w W → Calls Tryz.prog 9 #[.agg #[vm, vd], .int .i64 16384] W (WgTP 16384 t W)) := fun W hW => weighTemplate_calls t 16384 (Nat.le_refl _) hi.wide _ vm vd W (hi.mainAt hW) (hi.defsAt hW)
  have PR : Hid (TmZ t → ∀ W, Below w.heap.size w W → Calls Tryz.prog 12 #[.agg #[vm, vd]] W (PrintR t W)) := fun hz W hW => print_calls t hz vm vd W (hg.below hW) (hi.mainAt hW) (hi.defsAt hW)
  have CK : Hid (TmZ t → ∀ W, Below w.heap.size w W → Calls Tryz.prog 11 #[.agg #[vm, vd]] W (CheckR t W)) := fun hz W hW => check_calls t hz vm vd W (hg.below hW) (hi.mainAt hW) (hi.defsAt hW)
  have HI := Lib.hid hi
  have HG := Lib.hid hg
  have HWD := Lib.hid hi.wide
  obtain ⟨am, cm, rfl, -⟩ := hi.main
  obtain ⟨a, c, rfl, -⟩ := hi.defs
  clear hi hg he
  go_enter Tryz.func4, Tryz.ntmps4
  go_wp2_with fail
  generalize hWW : World.alloc w _ = w0 at *
  clear hWW
  have HTC : Hid (∀ W, Below (w.heap.size + 1) w0 W → W.cell? ⟨w.heap.size, 0, none⟩ = some (.slice am t.main.len cm) ∧ W.cell? ⟨w.heap.size, 1, none⟩ = some (.slice a t.defs.length c) ∧ Below w.heap.size w W ∧ w.heap.size + 1 ≤ W.heap.size) := fun W hW =>
    ⟨by rw [cell_of_heap' ((hW.block _ (by omega)).trans HT0.out)]; rfl, by rw [cell_of_heap' ((hW.block _ (by omega)).trans HT0.out)]; rfl, HB0.out.trans (hW.mono (by omega)), by have := hW.size; rw [HS0.out] at this; exact this⟩
  refine (WK.out _ HB0.out).mono ?_
  rintro e w1 ⟨rfl, hb1⟩
  have HW1 : Hid (Below (w.heap.size + 1) w0 w1) := hb1.mono (by rw [HS0.out]; exact Nat.le_refl _)
  clear hb1
  obtain ⟨t0, t1, hb1, hs1⟩ := HTC.out _ HW1.out
  have HB1 := Lib.hid hb1
  clear hb1
  go_wp2_with fail
  refine (WG.out _ HB1.out).mono ?_
  rintro e w2 ⟨m, rfl, hm, hb2⟩
  have HW2 : Hid (Below (w.heap.size + 1) w0 w2) := HW1.out.trans (hb2.mono hs1)
  have HM := Lib.hid hm
  clear hb2 hm t0 t1
  obtain ⟨t0, t1, hb2, hs2⟩ := HTC.out _ HW2.out
  have HB2 := Lib.hid hb2
  clear hb2
  by_cases hbig : 16384 < m
  · have hbig' : (16384 : Int) < (m : Int) := by omega
    clear hbig
    go_wp2_with fail
    go_ret
    exact ⟨rfl, HB2.out⟩
  have hbig' : ¬ (16384 : Int) < (m : Int) := by omega
  have HZ : Hid (TmZ t) := tmZ_of t HWD.out (by have := HM.out (by omega); omega)
  clear hbig
  go_wp2_with fail
  refine (PR.out HZ.out _ HB2.out).mono ?_
  rintro e w3 ⟨rfl, hb3⟩
  have HW3 : Hid (Below (w.heap.size + 1) w0 w3) := HW2.out.trans (hb3.mono hs2)
  clear hb3 t0 t1
  obtain ⟨t0, t1, hb3, hs3⟩ := HTC.out _ HW3.out
  have HB3 := Lib.hid hb3
  clear hb3
  obtain ⟨n, hn⟩ : ∃ n, t.check = n := ⟨_, rfl⟩
  have HPS : Hid (printS t = if n = 0 then mkB t.src else ⟨#[]⟩) := by unfold Hid; rw [← hn]; rfl
  have HN := Lib.hid hn
  rw [HN.out]
  clear hn
  by_cases h0 : n = 0
  · subst h0
    have HPS2 : Hid (printS t = mkB t.src) := by unfold Hid; rw [HPS.out, if_pos rfl]
    rw [HPS2.out]
    obtain ⟨u, hue, hup⟩ := parse_back t HN.out
    have HUE := Lib.hid hue
    have HUP := Lib.hid (hup w3 (HG.out.below HB3.out))
    clear hue hup
    go_wp2_with fail
    refine HUP.out.mono ?_
    rintro e w4 ⟨hb4, um, ud, rfl, hum, hud⟩
    have HW4 : Hid (Below (w.heap.size + 1) w0 w4) := HW3.out.trans (hb4.mono hs3)
    have HUM := Lib.hid hum
    have HUD := Lib.hid hud
    obtain ⟨uam, ucm, rfl, -⟩ := hum
    obtain ⟨uad, ucd, rfl, -⟩ := hud
    clear hb4 t0 t1
    obtain ⟨t0, t1, hb4, hs4⟩ := HTC.out _ HW4.out
    have HB4 := Lib.hid hb4
    clear hb4
    have HA5 : Hid (Below w4.heap.size w4 (w4.alloc (.cells #[.slice uam u.main.len ucm, .slice uad u.defs.length ucd] 25))) := (Below.refl _ w4).alloc (Nat.le_refl _) _
    have HT5 : Hid ((w4.alloc (.cells #[.slice uam u.main.len ucm, .slice uad u.defs.length ucd] 25)).heap[w4.heap.size]? = some (.cells #[.slice uam u.main.len ucm, .slice uad u.defs.length ucd] 25 (0, 0))) := heap_alloc_new w4 _
    have HS5 : Hid ((w4.alloc (.cells #[.slice uam u.main.len ucm, .slice uad u.defs.length ucd] 25)).heap.size = w4.heap.size + 1) := by unfold Hid; simp
    have HZU : Hid (TmZ u) := tmZ_era HUE.out.symm HZ.out
    go_upto_region 10 with (fail)
    generalize hWW : World.alloc w4 _ = w5 at *
    clear hWW
    have HUC : Hid (∀ W, Below (w4.heap.size + 1) w5 W → W.cell? ⟨w4.heap.size, 0, none⟩ = some (.slice uam u.main.len ucm) ∧ W.cell? ⟨w4.heap.size, 1, none⟩ = some (.slice uad u.defs.length ucd) ∧ Below (w.heap.size + 1) w0 W ∧ Below w4.heap.size w4 W ∧ w4.heap.size + 1 ≤ W.heap.size) := fun W hW =>
      ⟨by rw [cell_of_heap' ((hW.block _ (by omega)).trans HT5.out)]; rfl, by rw [cell_of_heap' ((hW.block _ (by omega)).trans HT5.out)]; rfl, HW4.out.trans ((HA5.out.trans (hW.mono (by omega))).mono hs4), HA5.out.trans (hW.mono (by omega)), by have := hW.size; rw [HS5.out] at this; exact this⟩
    obtain ⟨y0, y1, hw5, hu5, hv5⟩ := HUC.out _ (Below.refl _ _)
    have HW5 := Lib.hid hw5
    have HU5 := Lib.hid hu5
    have HB5 := Lib.hid (HTC.out _ hw5).2.2.1
    clear hw5 hu5 t0 t1
    have PU : Hid (Calls Tryz.prog 12 #[.agg #[.slice uam u.main.len ucm, .slice uad u.defs.length ucd]] w5 fun e w' => e = .returned (.tuple #[.string (mkB t.src), .int .i64 0]) ∧ Below w5.heap.size w5 w') := by
      refine (print_calls u HZU.out _ _ w5 (HG.out.below HB5.out) ((HUM.out.kept (fun b hb => HU5.out.block b hb.2)).mono (fun b hb => Nat.lt_of_lt_of_le hb.2 HU5.out.size)) ((HUD.out.kept (fun b hb => HU5.out.block b hb.2)).mono (fun b hb => Nat.lt_of_lt_of_le hb.2 HU5.out.size))).mono ?_
      rintro e w' ⟨rfl, h2⟩
      refine ⟨?_, h2⟩
      unfold printS
      rw [check_tm HUE.out, HN.out, if_pos rfl, src_tm HUE.out]; rfl
    go_wp2_with fail
    refine PU.out.mono ?_
    rintro e w6 ⟨rfl, hb6⟩
    have HX6 : Hid (Below (w4.heap.size + 1) w5 w6) := hb6.mono hv5
    clear hb6 y0 y1
    obtain ⟨y0, y1, hw6, hu6, hv6⟩ := HUC.out _ HX6.out
    obtain ⟨t0, t1, hb6, hs6⟩ := HTC.out _ hw6
    have HU6 := Lib.hid hu6
    have HB6 := Lib.hid hb6
    have SM : Hid (Calls Tryz.prog 14 #[.agg #[.slice am t.main.len cm, .slice a t.defs.length c], .agg #[.slice uam u.main.len ucm, .slice uad u.defs.length ucd], .bool false] w6 fun e w' => e = .returned (.bool true) ∧ Below w6.heap.size w6 w') :=
      sameTemplate_calls t u HUE.out.symm false (fun e => by cases e) _ _ _ _ _ _ w6 HZ.out (HI.out.mainAt HB6.out) (HUM.out.kept (fun b hb => HU6.out.block b hb.2)) (HI.out.defsAt HB6.out) (HUD.out.kept (fun b hb => HU6.out.block b hb.2))
    clear hw6 hu6 hb6
    go_wp2_with fail
    refine SM.out.mono ?_
    rintro e w7 ⟨rfl, hb7⟩
    have HB7 : Hid (Below w.heap.size w w7) := HB6.out.trans (hb7.mono (by omega))
    clear hb7 y0 y1 t0 t1
    go_wp2_with fail
    go_ret
    exact ⟨rfl, HB7.out⟩
  · have HPS2 : Hid (printS t = ⟨#[]⟩) := by unfold Hid; rw [HPS.out, if_neg h0]
    rw [HPS2.out]
    have f0 : ((n : Int) == 0) = false := beq_eq_false_iff_ne.2 (by omega)
    have f2 : ¬ (n : Int) = 0 := by omega
    have CC : Hid (∀ W, Below w.heap.size w W → Calls Tryz.prog 11 #[.agg #[.slice am t.main.len cm, .slice a t.defs.length c]] W fun e w' => e = .returned (.int .i64 (n : Nat)) ∧ Below W.heap.size W w') := fun W hW => (CK.out HZ.out W hW).mono fun e w' h => ⟨by rw [h.1, HN.out], h.2⟩
    clear h0
    go_wp2_with fail
    refine (CC.out _ HB3.out).mono ?_
    rintro e w4 ⟨rfl, hb4⟩
    have HB4 : Hid (Below w.heap.size w w4) := HB3.out.trans (hb4.mono HB3.out.size)
    clear hb4 t0 t1
    go_wp2_with fail
    go_ret
    exact ⟨rfl, HB4.out⟩
end Go.Proofs.YtdgcdjpjnhlihaaGreatDoor
set_option linter.unusedSimpArgs false
set_option linter.unusedVariables false
namespace Go.Proofs.YtdgcdjpjnhlihaaGreatDoor
open Go.RowKit Go.Shelf Go.Lib Go.ChangeShapes

theorem returns_laid {H : Type} {enc : TypeId × Value → H} {C : Checked} {os : Os} {f : FuncId} {fn : Func} {s : ChangeSpec} {conds : List PathCond} {apart fresh handsOn again : Bool} {X : World → Array Value → Prop}
    (hX : ∀ (w w' : World) (args : Array Value), w.heap = w'.heap → X w args → X w' args)
    (own : ownKnob C.prog.godebug = none) (started : os.Started) (noInit : C.prog.inits.idxOf? f = none) (hfn : C.prog.funcs[f]? = some fn)
    (witness : ∃ (w : World) (tape : Tape) (i : Input), w.os = os ∧ (w.forCall tape i).Shaped C.prog ∧ i.vars = [] ∧ Input.okWide C.prog (w.forCall tape i) .any w.heap.size f i ∧
      ((s.pre enc C.prog fn conds apart (w.forCall tape i).memory i.args ∧ X (w.forCall tape i).memory i.args) ∧ sizedMet enc C.prog fn (OpenSpec.ofChange s) apart (w.forCall tape i).memory i.args) ∧ ({} : Assume).holds C.prog (lone (Frame.enter C.prog f i.args .normal) [] (w.forCall tape i)))
    (contract : ∀ (W : World) (base : Nat) (args : Array Value) (ds gs : List (DataW H)) (before : List MemPlace),
      (∀ (j : Nat) t v, fn.params[j]? = some t → args[j]? = some v → Value.okWide C.prog W .any base t v) →
      DataW.Whole enc C.prog fn.params.toList s.vars apart W args.toList ds gs before →
      (DataW.weightsEach C.prog (fn.params.toList ++ (OpenSpec.ofChange s).bare.plain.varTypes C.prog) (ds ++ gs)).all (· ≤ reachBytes) = true →
      X W args → W.ShapedOpen C.prog →
      Calls C.prog f args W fun e W' => ∃ v, e = .returned v ∧ s.post enc C.prog fn apart fresh handsOn again W args v W') :
    ReturnsInHanded {} C os f .any (fun w args => (s.pre enc C.prog fn conds apart w args ∧ X w args) ∧ sizedMet enc C.prog fn (OpenSpec.ofChange s) apart w args) (s.post enc C.prog fn apart fresh handsOn again) := by
  refine returnsInHanded_of_calls own started noInit witness ?_
  intro w tape i _ hsh _ hok hpre hholds
  obtain ⟨_, _, _, fn', hfn', _, _, _, _, hval⟩ := hok
  obtain rfl : fn' = fn := Option.some.inj (hfn'.symm.trans hfn)
  obtain ⟨⟨-, hx⟩, -, ds, gs, before, hw, hz⟩ := hpre
  have hw' := DataW.Whole.of_heap (w' := w.forCall tape i) (by rfl) hw
  refine (contract (w.forCall tape i) w.heap.size i.args ds gs before hval hw' hz (hX _ _ _ (by rfl) hx) hsh).mono fun e W' ⟨v, he, hp⟩ => ?_
  subst he
  exact ChangeSpec.post_blind hp

set_option maxRecDepth 100000 in
theorem first_eq : Pinned.utf8First = firstData := by kernel_rfl
theorem accept_eq : (Rows.laid_unicode_utf8_acceptRanges : DataW Unit) = acceptData := by kernel_rfl
def laidU8 : List (String × DataW Unit) := [("unicode/utf8.acceptRanges", Rows.laid_unicode_utf8_acceptRanges), ("unicode/utf8.first", Rows.laid_unicode_utf8_first)]
def laidHs : List (String × DataW Unit) := [("errors.errorType", Rows.laid_errors_errorType)]
def laidAll3 : List (String × DataW Unit) := [("unicode/utf8.acceptRanges", Rows.laid_unicode_utf8_acceptRanges), ("errors.errorType", Rows.laid_errors_errorType), ("unicode/utf8.first", Rows.laid_unicode_utf8_first)]
theorem laid_parts {w : World} (h : laidMetH Tryz.prog laidAll3 w) : laidMet Tryz.prog laidU8 w ∧ handlesMet Tryz.prog laidHs w := h
theorem tabs_of_laid {w : World} (h : laidMetH Tryz.prog laidAll3 w) : Tabs w := by
  have h := (laid_parts h).1
  refine utf8Tabs_of_readsT (ρ := Lb.ren) { Lb.n197 with } ⟨by kernel_rfl, by kernel_rfl, by kernel_rfl, by kernel_rfl, by kernel_rfl, by kernel_rfl, by kernel_rfl⟩ ?_ ?_
  · exact first_eq ▸ laidMet.reads h (.tail _ (.head _))
  · exact accept_eq ▸ laidMet.reads h (.head _)
theorem eg_var : Tryz.prog.globalNamed "errors.errorType" = some 0 := by kernel_rfl
theorem eg_rt : (Tryz.prog.cutTypes.find? (·.1 == "internal/reflectlite.rtype")).map (·.2) = some 153 := by kernel_rfl
theorem eg_row : ((List.range 243).filter fun t => Tryz.prog.rowNamed t [101, 114, 114, 111, 114]) = [36] := by kernel_rfl
theorem eg_size : Tryz.prog.types.size = 243 := by kernel_rfl
theorem eg_of_laid {W : World} (h : laidMetH Tryz.prog laidAll3 W) : Eg W := by
  obtain ⟨name, u, ty, e1, e2, e3, e4, e5⟩ := (laid_parts h).2 _ (List.mem_singleton.2 rfl)
  have en : name = [101, 114, 114, 111, 114] := (Option.some.inj e1).symm
  subst en
  obtain rfl := Option.some.inj (eg_rt.symm.trans e2)
  have hm : ty ∈ (List.range 243).filter fun t => Tryz.prog.rowNamed t [101, 114, 114, 111, 114] := List.mem_filter.2 ⟨List.mem_range.2 (by rw [← eg_size]; exact e3), e4⟩
  rw [eg_row] at hm
  obtain rfl := List.mem_singleton.1 hm
  have hh : typeHandle Tryz.prog 36 = .pointer (some ⟨4, 36, none⟩) := by kernel_rfl
  rw [hh] at e5
  unfold Eg
  simpa using World.var?_cell eg_var e5 0
/-- A world that meets the condition. -/
noncomputable def egWorld (os : Os) : World :=
  let w0 := World.holding Tryz.prog os ⟨#[], #[], []⟩
  { w0 with heap := w0.heap.modify 0 fun
      | .cells _ t frozen => .cells #[.iface 153 (.agg #[.pointer (some ⟨4, 36, none⟩)])] t frozen
      | o => o }
noncomputable def laidWorld (os : Os) : World := (egWorld os).layVars Tryz.prog laidU8
theorem laidWorld_os (os : Os) : (laidWorld os).os = os := World.layVars_os _ _ _
theorem laidWorld_u8 (os : Os) (args : Array Value) : laidMet Tryz.prog laidU8 ((laidWorld os).forCall (fun _ _ => 0) ⟨#[], args, []⟩).memory := by
  have e1 : (laidU8.filter fun x => (laidU8.map (·.1)).contains x.1) = laidU8 := by kernel_rfl
  have e2 : (laidU8.filter fun x => !(laidU8.map (·.1)).contains x.1) = [] := by kernel_rfl
  have h : laidMet Tryz.prog laidU8 (laidWorld os) := laidMet_layVars (w0 := egWorld os) (laidU8.map (·.1)) [] (by rw [e1]; rfl) (by rw [e1]; kernel_rfl) (by rw [e1]; kernel_rfl) (by rw [e2]; exact LaidIn.none)
  exact h.of_heap (by simp [World.memory, World.forCall, Input.heap])
theorem laidWorld_met (os : Os) (args : Array Value) : laidMetH Tryz.prog laidAll3 ((laidWorld os).forCall (fun _ _ => 0) ⟨#[], args, []⟩).memory :=
  laidMetH_of_parts (laidWorld_u8 os args) (by kernel_rfl)
end Go.Proofs.YtdgcdjpjnhlihaaGreatDoor
set_option linter.unusedSimpArgs false
set_option linter.unusedVariables false
namespace Go.Proofs.YtdgcdjpjnhlihaaGreatDoor
open Go.RowKit Go.Shelf Go.ChangeShapes Go.WideShapes Go.Joins

def Rc {H : Type} (T : TypeId) (d : DataW H) : Prop := (d.weights Tryz.prog T).all (· ≤ reachBytes) = true
theorem rc_string {H : Type} {T : TypeId} {l : List UInt8} (h : Rc (H := H) T (.lit (.string l))) : l.length ≤ 140737488351232 := by
  unfold Rc at h
  rw [DataW.weights] at h
  have h1 := List.all_eq_true.1 h l.length (by simp)
  exact of_decide_eq_true h1
theorem wAll_mem {H : Type} {e : TypeId} : ∀ (ds : List (DataW H)), (DataW.weightsAll Tryz.prog e ds).all (· ≤ reachBytes) = true → ∀ d ∈ ds, Rc e d := by
  intro ds
  induction ds with
  | nil => intro _ d hd; cases hd
  | cons x ds ih =>
    intro h d hd
    rw [DataW.weightsAll, List.all_append, Bool.and_eq_true] at h
    rcases List.mem_cons.1 hd with rfl | hd
    · exact h.1
    · exact ih h.2 d hd
theorem wEach_get {H : Type} : ∀ (ts : List TypeId) (ds : List (DataW H)), (DataW.weightsEach Tryz.prog ts ds).all (· ≤ reachBytes) = true → ∀ (i : Nat) t d, ts[i]? = some t → ds[i]? = some d → Rc t d := by
  intro ts
  induction ts with
  | nil => intro ds _ i t d h; simp at h
  | cons x ts ih =>
    intro ds h i t d h1 h2
    cases ds with
    | nil => simp at h2
    | cons y ds =>
      rw [DataW.weightsEach, List.all_append, Bool.and_eq_true] at h
      cases i with
      | zero => simp at h1 h2; subst h1; subst h2; exact h.1
      | succ i => exact ih ds h.2 i t d (by simpa using h1) (by simpa using h2)
theorem rc_slice {H : Type} {T e : TypeId} (ht : Tryz.prog.underlying T = some (.slice e)) {es sp : List (DataW H)} (h : Rc T (.slice es sp)) : (es.length + sp.length) * Tryz.prog.bytesOf e ≤ 140737488351232 ∧ ∀ d ∈ es, Rc e d := by
  unfold Rc at h
  rw [DataW.weights, ht] at h
  simp only [List.all_cons, List.all_append, Bool.and_eq_true, decide_eq_true_eq] at h
  exact ⟨by have := h.1; unfold reachBytes at this; exact this, wAll_mem es h.2.1⟩
theorem rc_agg {H : Type} {T : TypeId} {fs : Array Field} (ht : Tryz.prog.underlying T = some (.struct fs)) {ps : List (DataW H)} (h : Rc T (.agg ps)) : ∀ (i : Nat) f d, fs[i]? = some f → ps[i]? = some d → Rc f.type d := by
  unfold Rc at h
  rw [DataW.weights, ht] at h
  intro i f d h1 h2
  refine wEach_get _ ps h i f.type d ?_ h2
  rw [List.getElem?_map, Array.getElem?_toList, h1]; rfl
theorem list_of {α : Type} (Q : Nat → α → Prop) : ∀ n, (∀ i, i < n → ∃ s, Q i s) → ∃ l : List α, l.length = n ∧ ∀ i s, l[i]? = some s → Q i s := by
  intro n
  induction n with
  | zero => intro _; exact ⟨[], rfl, fun i s h => by simp at h⟩
  | succ n ih =>
    intro h
    obtain ⟨l, h1, h2⟩ := ih (fun i hi => h i (by omega))
    obtain ⟨s, hs⟩ := h n (by omega)
    refine ⟨l ++ [s], by simp [h1], fun i x hx => ?_⟩
    rcases Nat.lt_or_ge i l.length with hi | hi
    · rw [List.getElem?_append_left hi] at hx; exact h2 i x hx
    · rw [List.getElem?_append_right hi] at hx
      have hlt := (List.getElem?_eq_some_iff.1 hx).1
      simp at hlt
      have hil : i = n := by omega
      subst hil
      rw [h1, Nat.sub_self] at hx
      simp at hx
      subst hx; exact hs
theorem add_at (b o n j : Nat) : ((⟨b, o, none⟩ : Addr).add n).add j = ⟨b, o + n + j, none⟩ := by
  unfold Addr.add
  split <;> split <;> simp_all
  all_goals omega
section
variable {H : Type} {enc : TypeId × Value → H} {W : World} {sp : Nat → Bool} {held : Bool}
theorem bind_get {α β : Type} {x : Option α} {f : α → Option β} {y : β} (h : x.bind f = some y) : ∃ a, x = some a ∧ f a = some y := by
  cases x with
  | none => cases h
  | some a => exact ⟨a, rfl, h⟩
theorem c9 : Tryz.prog.cellsOf 9 = 1 := by kernel_rfl
theorem c54 : Tryz.prog.cellsOf 54 = 1 := by kernel_rfl
theorem c3 : Tryz.prog.cellsOf 3 = 1 := by kernel_rfl
theorem c56 : Tryz.prog.cellsOf 56 = 2 := by kernel_rfl
theorem c22 : Tryz.prog.cellsOf 22 = 1 := by kernel_rfl
theorem c43 : Tryz.prog.cellsOf 43 = 1 := by kernel_rfl
theorem c4 : Tryz.prog.cellsOf 4 = 1 := by kernel_rfl
theorem c58 : Tryz.prog.cellsOf 58 = 8 := by kernel_rfl
theorem c61 : Tryz.prog.cellsOf 61 = 3 := by kernel_rfl
theorem b9 : Tryz.prog.bytesOf 9 = 16 := by kernel_rfl
theorem b58 : Tryz.prog.bytesOf 58 = 128 := by kernel_rfl
theorem b61 : Tryz.prog.bytesOf 61 = 48 := by kernel_rfl
theorem bd_i64 {n : Int} (h : (Lit.int .i64 n).wf = true) : -9223372036854775808 ≤ n ∧ n ≤ 9223372036854775807 := by
  simp [Lit.wf, IntKind.min, IntKind.max, IntKind.bits, IntKind.signed] at h
  omega
theorem bd_u8 {n : Int} (h : (Lit.int .u8 n).wf = true) : 0 ≤ n ∧ n ≤ 255 := by
  simp [Lit.wf, IntKind.min, IntKind.max, IntKind.bits, IntKind.signed] at h
  omega
/-- A []string that came in. -/
theorem open_strs {fuel : Nat} {v : Value} {y : DataW H × List MemPlace} (h : DataW.trod enc Tryz.prog W 0 sp held fuel 43 [v] = some y) (hr : Rc 43 y.1) :
    ∃ l : List ByteArray, Strs (· < W.heap.size) W v l ∧ l.length ≤ 140737488351232 ∧ ∀ s ∈ l, s.size ≤ 140737488351232 := by
  rcases DataW.trod_slice Tryz.underlying43 h with ⟨hv, -⟩ | ⟨a, len, cap, elems, rest, n, -, hv, rfl, -, hl, hm, hlen, hel, -, -⟩
  · simp at hv; subst hv
    exact ⟨[], Strs.nil _ _, Nat.zero_le _, fun s hs => by cases hs⟩
  · simp at hv; subst hv
    obtain ⟨r1, r2⟩ := rc_slice Tryz.underlying43 hr
    rw [b9] at r1
    simp only [List.length_map] at r1
    have key : ∀ i, i < len → ∃ s : ByteArray, s.size ≤ 140737488351232 ∧ W.cell? ((a.add (i * 1)).add 0) = some (.string s) := by
      intro i hi
      have h1 := hel i hi
      obtain ⟨e, he⟩ : ∃ e, elems[i]? = some e := ⟨_, List.getElem?_eq_getElem (by omega)⟩
      rw [he, c9] at h1
      obtain ⟨cs, hc, ht⟩ := bind_get h1
      obtain ⟨s, rfl, hx, hs⟩ := DataW.trod_string Tryz.underlying9 ht
      obtain ⟨-, -, hat⟩ := World.cells?_some hc
      have hr2 := r2 e.1 (List.mem_map_of_mem (List.mem_of_getElem? he))
      rw [hx] at hr2
      exact ⟨s, rc_string hr2, hat 0 (by omega)⟩
    obtain ⟨l, hl1, hl2⟩ := list_of _ len key
    refine ⟨l, ⟨some a, cap, by rw [hl1], by omega, hm, fun hne => ?_⟩, by omega, fun s hs => ?_⟩
    · have h0 : 0 < len := by
        cases l with
        | nil => exact absurd rfl hne
        | cons x l => simp at hl1; omega
      obtain ⟨s0, -, hs0⟩ := key 0 h0
      have hsp : a.spot = none := by have := World.cell?_spot hs0; simpa [Addr.add] using this
      obtain ⟨b, o, sp'⟩ := a
      dsimp only at hsp
      subst hsp
      refine ⟨b, o, rfl, ?_, fun i s hi => ?_⟩
      · have := lt_of_cell hs0
        rw [add_at] at this; exact this
      · have := (hl2 i s hi).2
        rw [add_at] at this
        rwa [show o + i * 1 + 0 = o + i by omega] at this
    · obtain ⟨i, hi⟩ := List.mem_iff_getElem?.1 hs
      exact (hl2 i s hi).1
/-- The first part of a row. -/
def RowE (ok : Nat → Prop) (w : World) (h : Hd) (k e : Pt) (b o : Nat) : Prop :=
    (w.cell? ⟨b, o, none⟩ = some (.int .u8 (h.kind : Nat)) ∧ w.cell? ⟨b, o + 1, none⟩ = some (.int .i64 h.pos) ∧ w.cell? ⟨b, o + 2, none⟩ = some (.string h.text) ∧ w.cell? ⟨b, o + 3, none⟩ = some (.bool h.root) ∧
      (∃ v, w.cell? ⟨b, o + 4, none⟩ = some v ∧ Strs ok w v h.names) ∧ w.cell? ⟨b, o + 5, none⟩ = some (.string h.name)) ∧
    (∃ v, w.cell? ⟨b, o + 6, none⟩ = some v ∧ Parts ok w v k) ∧ (∃ v, w.cell? ⟨b, o + 7, none⟩ = some v ∧ Parts ok w v e)
theorem RowE.cons {ok : Nat → Prop} {w : World} {h : Hd} {k e r : Pt} {b o : Nat} (h1 : RowE ok w h k e b o) (h2 : Row ok w r b (o + 8)) : Row ok w (.cons h k e r) b o := by
  obtain ⟨q1, ⟨v, q2, a, c, rfl, q3, q4, q5⟩, ⟨v', q6, a', c', rfl, q7, q8, q9⟩⟩ := h1
  exact ⟨q1, ⟨a, c, q2, q3, q4, q5⟩, ⟨a', c', q6, q7, q8, q9⟩, h2⟩
def HdE (h : Hd) (k e : Pt) : Prop := h.wf ∧ k.wf ∧ e.wf ∧ k.len ≤ 140737488351232 ∧ e.len ≤ 140737488351232
theorem row_of {ok : Nat → Prop} {w : World} (b o n : Nat) (hE : ∀ i, i < n → ∃ h k e, HdE h k e ∧ RowE ok w h k e b (o + i * 8)) : ∀ m k, k + m = n → ∃ t : Pt, t.len = m ∧ t.wf ∧ Row ok w t b (o + k * 8) := by
  intro m
  induction m with
  | zero => intro k _; exact ⟨.nil, rfl, trivial, trivial⟩
  | succ m ih =>
    intro k hk
    obtain ⟨t, h1, h2, h3⟩ := ih (k + 1) (by omega)
    obtain ⟨h, kd, el, ⟨e1, e2, e3, e4, e5⟩, hr⟩ := hE k (by omega)
    refine ⟨.cons h kd el t, by simp [Pt.len, h1], ⟨e1, e2, e3, h2, e4, e5⟩, hr.cons ?_⟩
    rwa [show o + k * 8 + 8 = o + (k + 1) * 8 by omega]
set_option maxRecDepth 100000 in
/-- A []api.Part that came in. -/
theorem open_parts (fuel : Nat) : ∀ (v : Value) (y : DataW H × List MemPlace), DataW.trod enc Tryz.prog W 0 sp held fuel 22 [v] = some y → Rc 22 y.1 →
    ∃ t : Pt, Parts (· < W.heap.size) W v t ∧ t.wf ∧ t.len ≤ 140737488351232 := by
  induction fuel using Nat.strongRecOn with
  | _ fuel ih =>
  intro v y h hr
  rcases DataW.trod_slice Tryz.underlying22 h with ⟨hv, -⟩ | ⟨a, len, cap, elems, rest, n, hn, hv, rfl, -, hl, hm, hlen, hel, -, -⟩
  · simp at hv; subst hv
    exact ⟨.nil, Parts.nil _ _, trivial, Nat.zero_le _⟩
  · simp at hv; subst hv
    obtain ⟨r1, r2⟩ := rc_slice Tryz.underlying22 hr
    rw [b58] at r1
    simp only [List.length_map] at r1
    by_cases h0 : len = 0
    · subst h0
      exact ⟨.nil, ⟨some a, cap, rfl, Nat.zero_le _, hm, fun e => absurd rfl e⟩, trivial, Nat.zero_le _⟩
    have key : ∀ i, i < len → ∃ (cs : List Value) (e : DataW H × List MemPlace), elems[i]? = some e ∧ cs.length = 8 ∧ (∀ j, j < 8 → W.cell? ((a.add (i * 8)).add j) = cs[j]?) ∧ DataW.trod enc Tryz.prog W 0 sp held n 58 cs = some e ∧ Rc 58 e.1 := by
      intro i hi
      have h1 := hel i hi
      obtain ⟨e, he⟩ : ∃ e, elems[i]? = some e := ⟨_, List.getElem?_eq_getElem (by omega)⟩
      rw [he, c58] at h1
      obtain ⟨cs, hc, ht⟩ := bind_get h1
      obtain ⟨-, h8, hat⟩ := World.cells?_some hc
      exact ⟨cs, e, he, h8, hat, ht, r2 e.1 (List.mem_map_of_mem (List.mem_of_getElem? he))⟩
    have hsp : a.spot = none ∧ a.block < W.heap.size := by
      obtain ⟨cs, e, -, h8, hat, -⟩ := key 0 (by omega)
      have hc0 := hat 0 (by omega)
      rw [List.getElem?_eq_getElem (by omega)] at hc0
      refine ⟨by have := World.cell?_spot hc0; simpa [Addr.add] using this, by have := lt_of_cell hc0; simpa [Addr.add] using this⟩
    obtain ⟨b, o, sp'⟩ := a
    obtain ⟨hsp1, hblk⟩ := hsp
    dsimp only at hsp1 hblk
    subst hsp1
    have hE : ∀ i, i < len → ∃ h k e, HdE h k e ∧ RowE (· < W.heap.size) W h k e b (o + i * 8) := by
      intro i hi
      obtain ⟨cs, e, -, h8, hat, ht, hrc⟩ := key i hi
      obtain ⟨xs, n2, hn2, hx, -, hxl, hf⟩ := DataW.trod_struct Tryz.underlying58 ht
      match cs, h8 with
      | [v0, v1, v2, v3, v4, v5, v6, v7], _ =>
        match xs, hxl with
        | [y0, y1, y2, y3, y4, y5, y6], _ =>
          rw [hx] at hrc
          have hrf := rc_agg Tryz.underlying58 hrc
          have f0 : DataW.trod enc Tryz.prog W 0 sp held n2 54 (([v0, v1, v2, v3, v4, v5, v6, v7].drop 0).take (Tryz.prog.cellsOf 54)) = some y0 := hf 0 _ rfl
          have f1 : DataW.trod enc Tryz.prog W 0 sp held n2 3 (([v0, v1, v2, v3, v4, v5, v6, v7].drop 1).take (Tryz.prog.cellsOf 3)) = some y1 := hf 1 _ rfl
          have f2 : DataW.trod enc Tryz.prog W 0 sp held n2 9 (([v0, v1, v2, v3, v4, v5, v6, v7].drop 2).take (Tryz.prog.cellsOf 9)) = some y2 := hf 2 _ rfl
          have f3 : DataW.trod enc Tryz.prog W 0 sp held n2 56 (([v0, v1, v2, v3, v4, v5, v6, v7].drop 3).take (Tryz.prog.cellsOf 56)) = some y3 := hf 3 _ rfl
          have f4 : DataW.trod enc Tryz.prog W 0 sp held n2 9 (([v0, v1, v2, v3, v4, v5, v6, v7].drop 5).take (Tryz.prog.cellsOf 9)) = some y4 := hf 4 _ rfl
          have f5 : DataW.trod enc Tryz.prog W 0 sp held n2 22 (([v0, v1, v2, v3, v4, v5, v6, v7].drop 6).take (Tryz.prog.cellsOf 22)) = some y5 := hf 5 _ rfl
          have f6 : DataW.trod enc Tryz.prog W 0 sp held n2 22 (([v0, v1, v2, v3, v4, v5, v6, v7].drop 7).take (Tryz.prog.cellsOf 22)) = some y6 := hf 6 _ rfl
          rw [c54] at f0
          rw [c3] at f1
          rw [c9] at f2
          rw [c56] at f3
          rw [c9] at f4
          rw [c22] at f5
          rw [c22] at f6
          have g0 : DataW.trod enc Tryz.prog W 0 sp held n2 54 [v0] = some y0 := f0
          have g1 : DataW.trod enc Tryz.prog W 0 sp held n2 3 [v1] = some y1 := f1
          have g2 : DataW.trod enc Tryz.prog W 0 sp held n2 9 [v2] = some y2 := f2
          have g3 : DataW.trod enc Tryz.prog W 0 sp held n2 56 [v3, v4] = some y3 := f3
          have g4 : DataW.trod enc Tryz.prog W 0 sp held n2 9 [v5] = some y4 := f4
          have g5 : DataW.trod enc Tryz.prog W 0 sp held n2 22 [v6] = some y5 := f5
          have g6 : DataW.trod enc Tryz.prog W 0 sp held n2 22 [v7] = some y6 := f6
          have q2 : Rc 9 y2.1 := hrf 2 _ _ rfl rfl
          have q3 : Rc 56 y3.1 := hrf 3 _ _ rfl rfl
          have q4 : Rc 9 y4.1 := hrf 4 _ _ rfl rfl
          have q5 : Rc 22 y5.1 := hrf 5 _ _ rfl rfl
          have q6 : Rc 22 y6.1 := hrf 6 _ _ rfl rfl
          obtain ⟨kind, e0, -, w0⟩ := DataW.trod_int Tryz.underlying54 g0
          obtain ⟨pos, e1, -, w1⟩ := DataW.trod_int Tryz.underlying3 g1
          obtain ⟨text, e2, x2, -⟩ := DataW.trod_string Tryz.underlying9 g2
          obtain ⟨name, e4, x4, -⟩ := DataW.trod_string Tryz.underlying9 g4
          obtain ⟨kd, pk, wk, lk⟩ := ih n2 (by omega) _ _ g5 q5
          obtain ⟨el, pe, we, le⟩ := ih n2 (by omega) _ _ g6 q6
          obtain ⟨ps, n3, hn3, hp, -, hpl, hpf⟩ := DataW.trod_struct Tryz.underlying56 g3
          match ps, hpl with
          | [z0, z1], _ =>
            rw [hp] at q3
            have hrp := rc_agg Tryz.underlying56 q3
            have p0 : DataW.trod enc Tryz.prog W 0 sp held n3 4 (([v3, v4].drop 0).take (Tryz.prog.cellsOf 4)) = some z0 := hpf 0 _ rfl
            have p1 : DataW.trod enc Tryz.prog W 0 sp held n3 43 (([v3, v4].drop 1).take (Tryz.prog.cellsOf 43)) = some z1 := hpf 1 _ rfl
            rw [c4] at p0
            rw [c43] at p1
            have s0 : DataW.trod enc Tryz.prog W 0 sp held n3 4 [v3] = some z0 := p0
            have s1 : DataW.trod enc Tryz.prog W 0 sp held n3 43 [v4] = some z1 := p1
            obtain ⟨root, e3, -⟩ := DataW.trod_bool Tryz.underlying4 s0
            obtain ⟨names, hs, ln, sn⟩ := open_strs s1 (hrp 1 _ _ rfl rfl)
            simp at e0 e1 e2 e3 e4
            subst e0 e1 e2 e3 e4
            rw [x2] at q2
            rw [x4] at q4
            have t2 := rc_string q2
            have t4 := rc_string q4
            obtain ⟨a1, a2⟩ := bd_u8 w0
            obtain ⟨b1, b2⟩ := bd_i64 w1
            have at_ : ∀ j, j < 8 → W.cell? ⟨b, o + i * 8 + j, none⟩ = [Value.int .u8 kind, .int .i64 pos, .string text, .bool root, v4, .string name, v6, v7][j]? := fun j hj => by
              have := hat j hj; rwa [add_at] at this
            refine ⟨⟨kind.toNat, pos, text, root, names, name⟩, kd, el, ⟨⟨by show kind.toNat < 256; omega, b1, b2, t2, t4, ln, sn⟩, wk, we, lk, le⟩, ⟨?_, at_ 1 (by omega), at_ 2 (by omega), at_ 3 (by omega), ⟨v4, at_ 4 (by omega), hs⟩, at_ 5 (by omega)⟩, ⟨v6, at_ 6 (by omega), pk⟩, ⟨v7, at_ 7 (by omega), pe⟩⟩
            have := at_ 0 (by omega)
            rw [Nat.add_zero] at this
            rw [this]
            show some (Value.int .u8 kind) = some (.int .u8 ((kind.toNat : Nat) : Int))
            rw [show ((kind.toNat : Nat) : Int) = kind by omega]
    obtain ⟨t, h1, h2, h3⟩ := row_of b o len hE len 0 (by omega)
    refine ⟨t, ⟨some ⟨b, o, none⟩, cap, by rw [h1], by omega, hm, fun _ => ⟨b, o, rfl, hblk, by rw [Nat.zero_mul, Nat.add_zero] at h3; exact h3⟩⟩, h2, by omega⟩
set_option maxRecDepth 100000 in
/-- A []api.Def that came in. -/
theorem open_defs {fuel : Nat} {v : Value} {y : DataW H × List MemPlace} (h : DataW.trod enc Tryz.prog W 0 sp held fuel 23 [v] = some y) (hr : Rc 23 y.1) :
    ∃ l : List Df, Defs (· < W.heap.size) W v l ∧ l.length ≤ 140737488351232 ∧ ∀ d ∈ l, d.name.size ≤ 140737488351232 ∧ d.kids.wf ∧ d.kids.len ≤ 140737488351232 := by
  rcases DataW.trod_slice Tryz.underlying23 h with ⟨hv, -⟩ | ⟨a, len, cap, elems, rest, n, hn, hv, rfl, -, hl, hm, hlen, hel, -, -⟩
  · simp at hv; subst hv
    exact ⟨[], Defs.nil _ _, Nat.zero_le _, fun s hs => by cases hs⟩
  · simp at hv; subst hv
    obtain ⟨r1, r2⟩ := rc_slice Tryz.underlying23 hr
    rw [b61] at r1
    simp only [List.length_map] at r1
    by_cases h0 : len = 0
    · subst h0
      exact ⟨[], ⟨some a, cap, rfl, Nat.zero_le _, hm, fun e => absurd rfl e⟩, Nat.zero_le _, fun s hs => by cases hs⟩
    have key : ∀ i, i < len → ∃ (cs : List Value) (e : DataW H × List MemPlace), elems[i]? = some e ∧ cs.length = 3 ∧ (∀ j, j < 3 → W.cell? ((a.add (i * 3)).add j) = cs[j]?) ∧ DataW.trod enc Tryz.prog W 0 sp held n 61 cs = some e ∧ Rc 61 e.1 := by
      intro i hi
      have h1 := hel i hi
      obtain ⟨e, he⟩ : ∃ e, elems[i]? = some e := ⟨_, List.getElem?_eq_getElem (by omega)⟩
      rw [he, c61] at h1
      obtain ⟨cs, hc, ht⟩ := bind_get h1
      obtain ⟨-, h8, hat⟩ := World.cells?_some hc
      exact ⟨cs, e, he, h8, hat, ht, r2 e.1 (List.mem_map_of_mem (List.mem_of_getElem? he))⟩
    have hsp : a.spot = none ∧ a.block < W.heap.size := by
      obtain ⟨cs, e, -, h8, hat, -⟩ := key 0 (by omega)
      have hc0 := hat 0 (by omega)
      rw [List.getElem?_eq_getElem (by omega)] at hc0
      refine ⟨by have := World.cell?_spot hc0; simpa [Addr.add] using this, by have := lt_of_cell hc0; simpa [Addr.add] using this⟩
    obtain ⟨b, o, sp'⟩ := a
    obtain ⟨hsp1, hblk⟩ := hsp
    dsimp only at hsp1 hblk
    subst hsp1
    have hE : ∀ i, i < len → ∃ d : Df, (d.name.size ≤ 140737488351232 ∧ d.kids.wf ∧ d.kids.len ≤ 140737488351232) ∧ W.cell? ⟨b, o + i * 3, none⟩ = some (.string d.name) ∧ W.cell? ⟨b, o + i * 3 + 1, none⟩ = some (.int .i64 d.pos) ∧ ∃ v, W.cell? ⟨b, o + i * 3 + 2, none⟩ = some v ∧ Parts (· < W.heap.size) W v d.kids := by
      intro i hi
      obtain ⟨cs, e, -, h8, hat, ht, hrc⟩ := key i hi
      obtain ⟨xs, n2, hn2, hx, -, hxl, hf⟩ := DataW.trod_struct Tryz.underlying61 ht
      match cs, h8 with
      | [v0, v1, v2], _ =>
        match xs, hxl with
        | [y0, y1, y2], _ =>
          rw [hx] at hrc
          have hrf := rc_agg Tryz.underlying61 hrc
          have f0 : DataW.trod enc Tryz.prog W 0 sp held n2 9 (([v0, v1, v2].drop 0).take (Tryz.prog.cellsOf 9)) = some y0 := hf 0 _ rfl
          have f1 : DataW.trod enc Tryz.prog W 0 sp held n2 3 (([v0, v1, v2].drop 1).take (Tryz.prog.cellsOf 3)) = some y1 := hf 1 _ rfl
          have f2 : DataW.trod enc Tryz.prog W 0 sp held n2 22 (([v0, v1, v2].drop 2).take (Tryz.prog.cellsOf 22)) = some y2 := hf 2 _ rfl
          rw [c9] at f0
          rw [c3] at f1
          rw [c22] at f2
          have g0 : DataW.trod enc Tryz.prog W 0 sp held n2 9 [v0] = some y0 := f0
          have g1 : DataW.trod enc Tryz.prog W 0 sp held n2 3 [v1] = some y1 := f1
          have g2 : DataW.trod enc Tryz.prog W 0 sp held n2 22 [v2] = some y2 := f2
          have q0 : Rc 9 y0.1 := hrf 0 _ _ rfl rfl
          have q2 : Rc 22 y2.1 := hrf 2 _ _ rfl rfl
          obtain ⟨name, e0, x0, -⟩ := DataW.trod_string Tryz.underlying9 g0
          obtain ⟨pos, e1, -, w1⟩ := DataW.trod_int Tryz.underlying3 g1
          obtain ⟨kd, pk, wk, lk⟩ := open_parts n2 _ _ g2 q2
          simp at e0 e1
          subst e0 e1
          rw [x0] at q0
          have at_ : ∀ j, j < 3 → W.cell? ⟨b, o + i * 3 + j, none⟩ = [Value.string name, .int .i64 pos, v2][j]? := fun j hj => by
            have := hat j hj; rwa [add_at] at this
          refine ⟨⟨name, pos, kd⟩, ⟨rc_string q0, wk, lk⟩, ?_, at_ 1 (by omega), v2, at_ 2 (by omega), pk⟩
          have := at_ 0 (by omega)
          rwa [Nat.add_zero] at this
    obtain ⟨l, hl1, hl2⟩ := list_of _ len hE
    have hrow : ∀ (m : List Df) (k : Nat), (∀ i d, m[i]? = some d → l[k + i]? = some d) → DRow (· < W.heap.size) W m b (o + k * 3) := by
      intro m
      induction m with
      | nil => intro k _; exact trivial
      | cons d m ihm =>
        intro k hk
        have h1 := hl2 k d (by have := hk 0 d rfl; rwa [Nat.add_zero] at this)
        refine ⟨h1.2.1, h1.2.2.1, h1.2.2.2, ?_⟩
        have := ihm (k + 1) (fun i x hx => by have := hk (i + 1) x (by simpa using hx); rwa [show k + (i + 1) = k + 1 + i by omega] at this)
        rwa [show o + k * 3 + 3 = o + (k + 1) * 3 by omega]
    refine ⟨l, ⟨some ⟨b, o, none⟩, cap, by rw [hl1], by omega, hm, fun _ => ⟨b, o, rfl, hblk, by have := hrow l 0 (fun i d h => by rwa [Nat.zero_add]); rwa [Nat.zero_mul, Nat.add_zero] at this⟩⟩, by omega, fun d hd => ?_⟩
    obtain ⟨i, hi⟩ := List.mem_iff_getElem?.1 hd
    exact (hl2 i d hi).1
set_option maxRecDepth 100000 in
/-- An api.Template that came in, by value. -/
theorem open_template {r : Reach} {b0 : Nat} {v : Value} {d : DataW H} {p : List MemPlace} (hv : Value.okWide Tryz.prog W r b0 25 v) (h : DataW.Trod enc Tryz.prog W 0 sp held 25 v d p) (hr : Rc 25 d) :
    ∃ (t : Tm) (vm vd : Value), v = .agg #[vm, vd] ∧ TmIn t vm vd W := by
  obtain ⟨vm, vd, y0, y1, n, rfl, rfl, -, h0, h1⟩ := open_agg2 Tryz.underlying25 (by kernel_rfl) (by kernel_rfl) hv h
  have hrf := rc_agg Tryz.underlying25 hr
  obtain ⟨m, pm, wm, lm⟩ := open_parts n vm y0 h0 (hrf 0 _ _ rfl rfl)
  obtain ⟨ds, dd, ld, hd⟩ := open_defs h1 (hrf 1 _ _ rfl rfl)
  exact ⟨⟨m, ds⟩, vm, vd, rfl, ⟨⟨wm, lm⟩, ld, hd⟩, pm, dd⟩
end
end Go.Proofs.YtdgcdjpjnhlihaaGreatDoor
