/-
  The contract of lacunaref00.SameTemplate where both are the same, or the same but for places. The condition: sizes of at most 2 to the 24th bytes.
-/
import Derived.Test.YtepcpgdfbaklfaaGreatDoorMgTs0
import Derived.Test.YtepcpgdfbaklfaaGreatDoorMgTso
import Derived.StillTailTactics
set_option linter.unusedSimpArgs false
set_option linter.unusedVariables false
namespace Go.Proofs.YtepcpgdfbaklfaaGreatDoor
open Go.RowKit Go.Shelf
attribute [local go_sem ↓] Go.wp_at_zero Go.wp_at_succ

theorem DRow.lt {ok : Nat → Prop} {w : World} : ∀ (l : List Df) (b o : Nat), DRow ok w l b o → DRow (fun b => ok b ∧ b < w.heap.size) w l b o := by
  intro l
  induction l with
  | nil => intro b o _; exact trivial
  | cons d r ih =>
    rintro b o ⟨c0, c1, ⟨v, c2, h⟩, hr⟩
    exact ⟨c0, c1, ⟨v, c2, h.lt⟩, ih b _ hr⟩
theorem Defs.lt {ok : Nat → Prop} {w : World} {v : Value} {l : List Df} (h : Defs ok w v l) : Defs (fun b => ok b ∧ b < w.heap.size) w v l := by
  obtain ⟨a, c, hv, h1, h2, h3⟩ := h
  refine ⟨a, c, hv, h1, h2, fun hl => ?_⟩
  obtain ⟨b, o, ha, hb, hc⟩ := h3 hl
  refine ⟨b, o, ha, ⟨hb, ?_⟩, hc.lt⟩
  cases l with
  | nil => exact absurd rfl hl
  | cons _ _ => exact lt_of_cell hc.1
set_option maxRecDepth 100000 in
set_option maxHeartbeats 40000000 in
theorem sameTemplate_calls (x y : Tm) (he : x.era = y.era) (pl : Bool) (hpl : pl = true → x = y) (ok ok' : Nat → Prop) (vm vm' vd vd' : Value) (w : World) (hz : TmZ x) (hx : Parts ok w vm x.main) (hy : Parts ok' w vm' y.main) (hxd : Defs ok w vd x.defs) (hyd : Defs ok' w vd' y.defs) :
    Calls Tryz.prog 13 #[.agg #[vm, vd], .agg #[vm', vd'], .bool pl] w fun e w' => e = .returned (.bool true) ∧ Below w.heap.size w w' := by
  obtain ⟨xm, xd⟩ := x
  obtain ⟨ym, yd⟩ := y
  obtain ⟨z1, z2, z3, z4, -⟩ := hz
  dsimp only at z1 z2 z3 z4 hx hy hxd hyd
  simp only [Tm.era, Tm.mk.injEq] at he
  obtain ⟨hem, hed⟩ := he
  have hlen : xd.length = yd.length := by have := congrArg List.length hed; simpa using this
  have MC : Hid (∀ W, Below w.heap.size w W → Calls Tryz.prog 32 #[vm, vm', .bool pl] W fun e w' => e = .returned (.bool true) ∧ Below W.heap.size W w') := fun W hW =>
    sameParts_calls xm ym hem pl (fun e => by have := hpl e; injection this) (fun b => ok b ∧ b < w.heap.size) (fun b => ok' b ∧ b < w.heap.size) vm vm' W z1 (by omega) (hx.lt.kept (fun b hb => hW.block b hb.2)) (hy.lt.kept (fun b hb => hW.block b hb.2))
  obtain ⟨am, cm, rfl, -⟩ := hx
  obtain ⟨am', cm', rfl, -⟩ := hy
  obtain ⟨a, c, rfl, h1, h2, h3⟩ := hxd.lt
  obtain ⟨a', c', rfl, h1', h2', h3'⟩ := hyd.lt
  have H3 := Lib.hid h3
  have H3' := Lib.hid h3'
  have HPL := Lib.hid hpl
  have HED := Lib.hid hed
  have HZ2 := Lib.hid z2
  have HSU := Lib.hid z3
  have HLEN := Lib.hid hlen
  rw [← hlen]
  clear h3 h3' hxd hyd h1 h2 h1' h2' hpl hed hem z1 z2 z3 hlen
  have HB0 : Hid (Below w.heap.size w ((w.alloc (.cells #[.slice am xm.len cm, .slice a xd.length c] 25)).alloc (.cells #[.slice am' ym.len cm', .slice a' xd.length c'] 25))) := ((Below.refl _ w).alloc (Nat.le_refl _) _).alloc (by simp) _
  have HT0 : Hid (((w.alloc (.cells #[.slice am xm.len cm, .slice a xd.length c] 25)).alloc (.cells #[.slice am' ym.len cm', .slice a' xd.length c'] 25)).heap[w.heap.size]? = some (.cells #[.slice am xm.len cm, .slice a xd.length c] 25 (0, 0))) := (Below.heap_alloc _ _ _ (by simp)).trans (heap_alloc_new w _)
  have HT1 : Hid (((w.alloc (.cells #[.slice am xm.len cm, .slice a xd.length c] 25)).alloc (.cells #[.slice am' ym.len cm', .slice a' xd.length c'] 25)).heap[w.heap.size + 1]? = some (.cells #[.slice am' ym.len cm', .slice a' xd.length c'] 25 (0, 0))) := by
    have := heap_alloc_new (w.alloc (.cells #[.slice am xm.len cm, .slice a xd.length c] 25)) (.cells #[.slice am' ym.len cm', .slice a' xd.length c'] 25)
    rwa [show (w.alloc (.cells #[.slice am xm.len cm, .slice a xd.length c] 25)).heap.size = w.heap.size + 1 by simp] at this
  have HS0 : Hid (((w.alloc (.cells #[.slice am xm.len cm, .slice a xd.length c] 25)).alloc (.cells #[.slice am' ym.len cm', .slice a' xd.length c'] 25)).heap.size = w.heap.size + 2) := by unfold Hid; simp
  go_enter Tryz.func13, Tryz.ntmps13
  go_wp2_with fail
  generalize hWW : World.alloc (World.alloc w _) _ = W0 at *
  clear hWW
  have HTC : Hid (∀ W, Below (w.heap.size + 2) W0 W → W.cell? ⟨w.heap.size, 1, none⟩ = some (.slice a xd.length c) ∧ W.cell? ⟨w.heap.size + 1, 1, none⟩ = some (.slice a' xd.length c')) := fun W hW =>
    ⟨by rw [cell_of_heap' ((hW.block _ (by omega)).trans HT0.out)]; rfl, by rw [cell_of_heap' ((hW.block _ (by omega)).trans HT1.out)]; rfl⟩
  refine (MC.out _ HB0.out).mono ?_
  rintro e w1 ⟨rfl, hb1⟩
  have HB1 : Hid (Below (w.heap.size + 2) W0 w1) := hb1.mono (by rw [HS0.out]; exact Nat.le_refl _)
  clear hb1
  obtain ⟨t1, t2⟩ := HTC.out _ HB1.out
  go_wp2_with fail
  go_loopw [8] (fun i wr => ∃ k : Nat, i = .int .i64 k ∧ k ≤ xd.length ∧ Hid (Below (w.heap.size + 2) W0 wr)) (fun i _ => xd.length - (intOf i).toNat)
  case atStart => exact ⟨0, rfl, Nat.zero_le _, HB1⟩
  case round =>
    obtain ⟨k, rfl, hk, HB⟩ := hrel
    clear t1 t2
    obtain ⟨t1, t2⟩ := HTC.out _ HB.out
    by_cases hlt : k < xd.length
    · have hlt' : (k : Int) < (xd.length : Int) := by omega
      have hk0 : (0 : Int) ≤ (k : Int) := by omega
      obtain ⟨d, hdk⟩ : ∃ d, xd[k]? = some d := ⟨_, List.getElem?_eq_getElem hlt⟩
      obtain ⟨d', hdk'⟩ : ∃ d, yd[k]? = some d := ⟨_, List.getElem?_eq_getElem (by rw [← HLEN.out]; exact hlt)⟩
      have hde : d.era = d'.era := by
        have := congrArg (fun l => l[k]?) HED.out
        simp only [List.getElem?_map, hdk, hdk', Option.map_some] at this
        injection this
      simp only [Df.era, Df.mk.injEq, true_and] at hde
      obtain ⟨hdn, hdk2⟩ := hde
      obtain ⟨b, o, rfl, hb, hrow⟩ := H3.out (by intro e; rw [e] at hlt; simp at hlt)
      obtain ⟨b', o', rfl, hb', hrow'⟩ := H3'.out (by intro e; rw [e] at hdk'; simp at hdk')
      have HBW : Hid (Below w.heap.size w wr) := HB0.out.trans (HB.out.mono (by omega))
      obtain ⟨g0, g1, v, g2, hpd⟩ := DRow.at _ _ _ _ _ hdk (hrow.kept (fun b hb => HBW.out.block b hb.2) _ _ _ hb)
      obtain ⟨g0', g1', v', g2', hpd'⟩ := DRow.at _ _ _ _ _ hdk' (hrow'.kept (fun b hb => HBW.out.block b hb.2) _ _ _ hb')
      have hdm : d ∈ xd := List.mem_of_getElem? hdk
      have hsz := HBW.out.size
      have hPP : pl = true → d.pos = d'.pos ∧ d.kids = d'.kids := fun e => by
        have := HPL.out e
        injection this with q1 q2
        rw [q2, hdk'] at hdk
        injection hdk with q; rw [q]; exact ⟨rfl, rfl⟩
      have hcd := sum_mem hdm
      have KC : Hid (∀ W, Below wr.heap.size wr W → Calls Tryz.prog 32 #[v, v', .bool pl] W fun e w' => e = .returned (.bool true) ∧ Below W.heap.size W w') := fun W hW =>
        sameParts_calls d.kids d'.kids hdk2 pl (fun e => (hPP e).2) (fun b => ok b ∧ b < w.heap.size) (fun b => ok' b ∧ b < w.heap.size) v v' W (HZ2.out d hdm).2 (by have := HSU.out; omega) (hpd.kept (fun b hb => hW.block b (by have := hb.2; omega))) (hpd'.kept (fun b hb => hW.block b (by have := hb.2; omega)))
      have HPP := Lib.hid hPP
      rw [← hdn] at g0'
      obtain ⟨av, cv, rfl, -⟩ := hpd
      obtain ⟨av', cv', rfl, -⟩ := hpd'
      have hbl : b < wr.heap.size := by have := hb.2; omega
      have hbl' : b' < wr.heap.size := by have := hb'.2; omega
      have HG : Hid (∀ W, Below wr.heap.size wr W → W.cell? ⟨b, o + k * 3, none⟩ = some (.string d.name) ∧ W.cell? ⟨b, o + k * 3 + 1, none⟩ = some (.int .i64 d.pos) ∧ W.cell? ⟨b', o' + k * 3, none⟩ = some (.string d.name) ∧ W.cell? ⟨b', o' + k * 3 + 1, none⟩ = some (.int .i64 d'.pos)) := fun W hW =>
        ⟨(hW.cell (p := ⟨b, _, none⟩) hbl).trans g0, (hW.cell (p := ⟨b, _, none⟩) hbl).trans g1, (hW.cell (p := ⟨b', _, none⟩) hbl').trans g0', (hW.cell (p := ⟨b', _, none⟩) hbl').trans g1'⟩
      clear hdk hdk' hrow hrow' hdm hPP hdn hdk2 hlt
      go_upto_region 7 with (fail)
      go_still_tail 13, (by kernel_rfl)
      change wpList _ _ _ _ _ wr.drew
      have HBd : Hid (Below wr.heap.size wr wr.drew) := ⟨rfl, rfl, rfl, Nat.le_refl _, fun _ _ => rfl⟩
      clear g0 g1 g2 g0' g1' g2'
      generalize wr.drew = w2 at *
      go_wp2_with fail
      refine (KC.out _ HBd.out).mono ?_
      rintro e w3 ⟨rfl, hb3⟩
      have HB3 : Hid (Below wr.heap.size wr w3) := HBd.out.trans (hb3.mono HBd.out.size)
      have HB4 : Hid (Below (w.heap.size + 2) W0 w3) := HB.out.trans (HB3.out.mono (by have := HB.out.size; rw [HS0.out] at this; exact this))
      clear hb3 t1 t2 KC
      obtain ⟨t1, t2⟩ := HTC.out _ HB4.out
      obtain ⟨g0, g1, g0', g1'⟩ := HG.out _ HB3.out
      cases pl with
      | false =>
        go_wp2_with fail
        go_quiet (fail)
        go_wp2_with fail
        go_roundw
        case rel => exact ⟨k + 1, by go_num, by omega, below_drewN HB4.out _⟩
        case measure => simp [intOf]; omega
      | true =>
        have hpp := (HPP.out rfl).1
        rw [← hpp] at g1'
        clear hpp
        go_wp2_with fail
        go_quiet (fail)
        go_wp2_with fail
        go_roundw
        case rel => exact ⟨k + 1, by go_num, by omega, below_drewN HB4.out _⟩
        case measure => simp [intOf]; omega
    · have hge : ¬ (k : Int) < (xd.length : Int) := by omega
      go_wp2_with fail
      go_ret
      exact ⟨rfl, HB0.out.trans (HB.out.mono (by omega))⟩
end Go.Proofs.YtepcpgdfbaklfaaGreatDoor
