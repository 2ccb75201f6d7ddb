/-
  The contract of lacunaref00.WeighTemplate. The condition: lists and texts of at most 2 to the 47th bytes.
-/
/-
  Plain laws: what a template weighs bounds its sizes; places turn neither what may be nor what is written. No condition.
-/
import Derived.Test.YtdgcdjpjnhlihaaGreatDoorTg0M
import Derived.Test.YtdgcdjpjnhlihaaGreatDoorTs2M
import Derived.Test.YtdgcdjpjnhlihaaGreatDoorMgTs0
set_option linter.unusedSimpArgs false
set_option linter.unusedVariables false
namespace Go.Proofs.YtdgcdjpjnhlihaaGreatDoor
open Go.RowKit Go.Shelf
attribute [local go_sem ↓] Go.wp_at_zero Go.wp_at_succ

/-- What memory has room for. -/
structure TmW (t : Tm) : Prop where
  main : t.main.wf ∧ t.main.len ≤ 140737488351232
  len : t.defs.length ≤ 140737488351232
  defs : ∀ d ∈ t.defs, d.name.size ≤ 140737488351232 ∧ d.kids.wf ∧ d.kids.len ≤ 140737488351232
def wtD (l : List Df) : Nat := (l.map fun d => d.name.size + wt d.kids).sum
def wtT (t : Tm) : Nat := wt t.main + t.defs.length + wtD t.defs
theorem wtD_cons (d : Df) (l : List Df) : wtD (d :: l) = d.name.size + wt d.kids + wtD l := by simp [wtD]
theorem drop_cons' (l : List Df) (k : Nat) (d : Df) (h : l[k]? = some d) : l.drop k = d :: l.drop (k + 1) := by
  have hlt := (List.getElem?_eq_some_iff.1 h).1
  rw [List.drop_eq_getElem_cons hlt, (List.getElem?_eq_some_iff.1 h).2]
def WgTP (most : Nat) (t : Tm) (w : World) (e : Ending) (w' : World) : Prop := ∃ m : Nat, e = .returned (.int .i64 (m : Nat)) ∧ (m ≤ most → m = wtT t) ∧ Below w.heap.size w w'
set_option maxRecDepth 100000 in
set_option maxHeartbeats 40000000 in
theorem weighTemplate_calls (t : Tm) (most : Nat) (hmost : most ≤ 16384) (hz : TmW t) (ok : Nat → Prop) (vm vd : Value) (w : World) (hx : Parts ok w vm t.main) (hd : Defs ok w vd t.defs) :
    Calls Tryz.prog 9 #[.agg #[vm, vd], .int .i64 (most : Nat)] w (WgTP most t w) := by
  obtain ⟨main, defs⟩ := t
  obtain ⟨⟨z1, z1'⟩, z2, z3⟩ := hz
  dsimp only at z1 z1' z2 z3 hx hd
  have MC : Hid (∀ W, Below w.heap.size w W → Calls Tryz.prog 22 #[vm, .int .i64 (most : Nat)] W (WgP most main W)) := fun W hW =>
    weighParts_calls main most (fun b => ok b ∧ b < w.heap.size) vm W hmost z1 z1' (hx.lt.kept (fun b hb => hW.block b hb.2))
  obtain ⟨am, cm, rfl, -⟩ := hx
  obtain ⟨a, c, rfl, h1, h2, h3⟩ := hd.lt
  have H3 := Lib.hid h3
  have HZ3 := Lib.hid z3
  have HZ1 := Lib.hid (And.intro z1 z1')
  clear h3 hd h1 h2 z1 z1' z3
  have HB0 : Hid (Below w.heap.size w (w.alloc (.cells #[.slice am main.len cm, .slice a defs.length c] 25))) := (Below.refl _ w).alloc (Nat.le_refl _) _
  have HT0 : Hid ((w.alloc (.cells #[.slice am main.len cm, .slice a defs.length c] 25)).heap[w.heap.size]? = some (.cells #[.slice am main.len cm, .slice a defs.length c] 25 (0, 0))) := heap_alloc_new w _
  have HS0 : Hid ((w.alloc (.cells #[.slice am main.len cm, .slice a defs.length c] 25)).heap.size = w.heap.size + 1) := by unfold Hid; simp
  go_enter Tryz.func9, Tryz.ntmps9
  go_upto_region 1 with (fail)
  generalize hWW : World.alloc w _ = W0 at *
  clear hWW
  have HTC : Hid (∀ W, Below (w.heap.size + 1) W0 W → W.cell? ⟨w.heap.size, 0, none⟩ = some (.slice am main.len cm) ∧ W.cell? ⟨w.heap.size, 1, none⟩ = some (.slice a defs.length c)) := fun W hW =>
    ⟨by rw [cell_of_heap' ((hW.block _ (by omega)).trans HT0.out)]; rfl, by rw [cell_of_heap' ((hW.block _ (by omega)).trans HT0.out)]; rfl⟩
  obtain ⟨t0, t1⟩ := HTC.out _ (Below.refl _ _)
  have MD : Hid (∀ n, Calls Tryz.prog 22 #[.slice am main.len cm, .int .i64 (most : Nat)] (W0.drewN n) fun e w' => e = .returned (.int .i64 (wgF most main : Nat)) ∧ ∃ m, w' = (W0.drewN n).drewN m) := fun n => (MC.out (W0.drewN n) (below_drewN HB0.out n)).mono (fun e w' h => h)
  obtain ⟨m0, hm00⟩ : ∃ m, wgF most main = m := ⟨_, rfl⟩
  have hm0 := wgF_bd main most HZ1.out.1 HZ1.out.2
  have HM0 : Hid (m0 ≤ most → m0 = wt main) := fun e => by rw [← hm00] at e ⊢; exact wgF_eq _ _ e
  rw [hm00] at hm0 MD
  clear hm00
  have wr0 : IntKind.i64.wrap ((m0 : Int) + (defs.length : Int)) = (m0 : Int) + (defs.length : Int) := IntWalk.i64_in _ ⟨by omega, by omega⟩
  go_quiet ((go_at_call 22; exact Calls.quiet_of (MD.out _)))
  generalize hWq : World.drewN W0 _ = w1
  have HB1 : Hid (Below (w.heap.size + 1) W0 w1) := by rw [← hWq]; exact below_drewN (Below.refl _ _) _
  clear hWq wr0 t0 t1
  obtain ⟨t0, t1⟩ := HTC.out _ HB1.out
  all_goals
    have hm0z : m0 + defs.length ≤ most + 700000000000000 := by omega
    have HINI : Hid (m0 + defs.length ≤ most → m0 + defs.length + wtD (defs.drop 0) = wtT ⟨main, defs⟩) := fun e => by have := HM0.out (by omega); simp [wtT, this]
    go_wp2_with fail
    go_loopw [5, 6] (fun v5 v6 wr => ∃ (many k : Nat), v5 = .int .i64 (many : Nat) ∧ v6 = .int .i64 (k : Nat) ∧ k ≤ defs.length ∧ Hid (many ≤ most → many + wtD (defs.drop k) = wtT ⟨main, defs⟩) ∧ many ≤ most + 700000000000000 ∧ Hid (Below (w.heap.size + 1) W0 wr)) (fun _ i _ => defs.length - (intOf i).toNat)
    case atStart => exact ⟨m0 + defs.length, 0, by go_num, rfl, Nat.zero_le _, HINI, hm0z, HB1⟩
    case round =>
      obtain ⟨many, k, rfl, rfl, hk, HM, hmb, HB⟩ := hrel
      clear t0 t1
      obtain ⟨t0, t1⟩ := HTC.out _ HB.out
      by_cases hlt : k < defs.length
      · have hlt' : (k : Int) < (defs.length : Int) := by omega
        by_cases hmm : many ≤ most
        · have hmm' : (many : Int) ≤ (most : Int) := by omega
          have hk0 : (0 : Int) ≤ (k : Int) := by omega
          obtain ⟨d, hdk⟩ : ∃ d, defs[k]? = some d := ⟨_, List.getElem?_eq_getElem hlt⟩
          obtain ⟨b, o, rfl, hb, hrow⟩ := H3.out (by intro e; rw [e] at hlt; simp at hlt)
          have HBW : Hid (Below w.heap.size w wr) := HB0.out.trans (HB.out.mono (by omega))
          obtain ⟨g0, g1, v, g2, hpd⟩ := DRow.at _ _ _ _ _ hdk (hrow.kept (fun b hb => HBW.out.block b hb.2) _ _ _ hb)
          obtain ⟨y1, y2, y3⟩ := HZ3.out d (List.mem_of_getElem? hdk)
          have HMX : Hid (many + (d.name.size + wt d.kids + wtD (defs.drop (k + 1))) = wtT ⟨main, defs⟩) := by have := HM.out hmm; rw [drop_cons' _ _ _ hdk, wtD_cons] at this; exact this
          have hbl : b < wr.heap.size := by have := hb.2; have := HBW.out.size; omega
          have KC : Hid (∀ n, Calls Tryz.prog 22 #[v, .int .i64 ((most - many : Nat) : Nat)] (wr.drewN n) fun e w' => e = .returned (.int .i64 (wgF (most - many) d.kids : Nat)) ∧ ∃ m, w' = (wr.drewN n).drewN m) := fun n =>
            (weighParts_calls d.kids (most - many) (fun b => ok b ∧ b < w.heap.size) v (wr.drewN n) (by omega) y2 y3 (hpd.kept (fun _ _ => rfl))).mono (fun e w' h => h)
          have hke := wgF_eq d.kids (most - many)
          have hkb := wgF_bd d.kids (most - many) y2 y3
          obtain ⟨mk, hmk⟩ : ∃ m, wgF (most - many) d.kids = m := ⟨_, rfl⟩
          rw [hmk] at hke hkb KC
          have HKE := Lib.hid hke
          have wr2 : IntKind.i64.wrap ((many : Int) + (d.name.size : Int) + (mk : Int)) = (many : Int) + (d.name.size : Int) + (mk : Int) := IntWalk.i64_in _ ⟨by omega, by omega⟩
          have wr3 : IntKind.i64.wrap ((most : Int) - (many : Int)) = ((most - many : Nat) : Int) := by rw [IntWalk.i64_in _ ⟨by omega, by omega⟩]; omega
          clear hmk hke
          obtain ⟨av, cv, rfl, -⟩ := hpd
          have hsub : (most : Int) - (many : Int) = ((most - many : Nat) : Int) := by omega
          have wr1 : IntKind.i64.wrap ((many : Int) + (d.name.size : Int)) = (many : Int) + (d.name.size : Int) := IntWalk.i64_in _ ⟨by omega, by omega⟩
          clear hdk hrow hlt
          go_upto_region 5 with (fail)
          go_quiet ((go_at_call 22; exact Calls.quiet_of (KC.out _)))
          generalize hWq : World.drewN wr _ = w3
          have HB3 : Hid (Below (w.heap.size + 1) W0 w3) := by rw [← hWq]; exact below_drewN HB.out _
          have HFIN : Hid (many + d.name.size + mk ≤ most → many + d.name.size + mk + wtD (defs.drop (k + 1)) = wtT ⟨main, defs⟩) := fun e => by have := HKE.out (by omega); have := HMX.out; omega
          clear hWq KC hsub hmm wr1 wr2 wr3 g0 g1 g2 t0 t1
          go_wp2_with fail
          go_roundw
          case rel => exact ⟨many + d.name.size + mk, k + 1, by go_num, by go_num, by omega, HFIN, by omega, HB3⟩
          case measure => simp [intOf]; omega
        · have hmm' : ¬ (many : Int) ≤ (most : Int) := by omega
          have HN := Lib.hid hmm
          clear hmm
          go_wp2_with fail
          go_ret
          exact ⟨many, rfl, fun e => absurd e HN.out, HB0.out.trans (HB.out.mono (by omega))⟩
      · have hge : ¬ (k : Int) < (defs.length : Int) := by omega
        have HFIN : Hid (many ≤ most → many = wtT ⟨main, defs⟩) := fun e => by have := HM.out e; rw [List.drop_of_length_le (by omega)] at this; simpa [wtD] using this
        go_wp2_with fail
        go_ret
        exact ⟨many, rfl, HFIN.out, HB0.out.trans (HB.out.mono (by omega))⟩
end Go.Proofs.YtdgcdjpjnhlihaaGreatDoor
set_option linter.unusedSimpArgs false
set_option linter.unusedVariables false
namespace Go.Proofs.YtdgcdjpjnhlihaaGreatDoor
open Go.RowKit Go.Shelf

theorem cnt_wt (t : Pt) : t.cnt ≤ t.len + wq t := by
  induction t with
  | nil => exact Nat.le_refl _
  | cons h k e r ihk ihe ihr => simp only [Pt.cnt, Pt.len, wq]; omega
theorem size_nsz {l : List ByteArray} {n : ByteArray} (h : n ∈ l) : n.size ≤ nsz l := by
  induction l with
  | nil => cases h
  | cons x l ih =>
    simp only [nsz, List.map_cons, List.sum_cons] at ih ⊢
    rcases List.mem_cons.1 h with rfl | h
    · omega
    · have := ih h; omega
theorem sm_wt (t : Pt) : ∀ n, n ≤ 16777216 → t.wf → t.len + wq t ≤ n → t.sm := by
  induction t with
  | nil => intro n _ _ _; exact trivial
  | cons h k e r ihk ihe ihr =>
    intro n hn hw hl
    obtain ⟨⟨h1, -, -, -, -, -, -⟩, hwk, hwe, hwr, -, -⟩ := hw
    simp only [Pt.len, wq, hw] at hl
    have : hw h = h.text.size + h.name.size + h.names.length + nsz h.names := rfl
    refine ⟨⟨h1, by omega, by omega, by omega, fun m hm => ?_⟩, ihk n hn hwk (by omega), ihe n hn hwe (by omega), ihr n hn hwr (by omega)⟩
    have := size_nsz hm; omega
theorem dots_wt (l : List ByteArray) : (dots (bls l)).length = l.length + nsz l := by
  induction l with
  | nil => rfl
  | cons x l ih =>
    have : bls (x :: l) = bl x :: bls l := rfl
    rw [this]
    simp only [dots, List.length_append, List.length_cons, nsz, List.map_cons, List.sum_cons] at ih ⊢
    have : (bl x).length = x.size := rfl
    omega
theorem way_wt (root : Bool) (l : List ByteArray) : (wayS root (bls l)).length ≤ 1 + l.length + nsz l := by
  have := dots_wt l
  unfold wayS
  split
  · simp; omega
  · rw [List.length_append, this]; split <;> simp <;> omega
theorem src_wt (t : Pt) : ∀ after, (t.src after).length ≤ 40 * (t.len + wq t) := by
  induction t with
  | nil => intro after; exact Nat.le_refl _
  | cons h k e r ihk ihe ihr =>
    intro after
    have h1 := ihr (decide (h.kind = 1))
    have h2 := ihk false
    have h3 := ihe false
    have h4 := way_wt h.root h.names
    have h5 : hw h = h.text.size + h.name.size + h.names.length + nsz h.names := rfl
    have h6 : (bl h.text).length = h.text.size := rfl
    have h7 : (bl h.name).length = h.name.size := rfl
    simp only [Pt.src, Pt.len, wq, List.length_append]
    have hp : (if h.kind = 1 then (if after then noteS else []) ++ bl h.text
     else if h.kind = 2 then bra ++ wayS h.root (bls h.names) ++ ket
     else if h.kind = 5 then bra ++ (kCall ++ 32 :: bl h.name ++ 32 :: wayS h.root (bls h.names)) ++ ket
     else if h.kind = 3 ∨ h.kind = 4 then
       bra ++ ((if h.kind = 4 then kRange else kIf) ++ 32 :: wayS h.root (bls h.names)) ++ ket ++ Pt.src false k ++ (if e.isNil then [] else elseS ++ Pt.src false e) ++ endS
     else []).length ≤ 40 * (1 + hw h) + 40 * (k.len + wq k) + 40 * (e.len + wq e) := by
      split
      · rw [List.length_append]; split <;> simp [noteS] <;> omega
      split
      · simp [bra, ket]; omega
      split
      · simp [bra, ket, kCall]; omega
      split
      · rw [List.length_append, List.length_append, List.length_append]
        have a1 : (bra ++ ((if h.kind = 4 then kRange else kIf) ++ 32 :: wayS h.root (bls h.names)) ++ ket).length ≤ 10 + (wayS h.root (bls h.names)).length := by
          split <;> simp [bra, ket, kRange, kIf] <;> omega
        have a2 : (if e.isNil then [] else elseS ++ Pt.src false e).length ≤ 8 + (Pt.src false e).length := by
          split
          · simp
          · rw [List.length_append]; have : elseS.length = 8 := rfl; omega
        have a3 : endS.length = 7 := rfl
        omega
      · simp
    omega
theorem srcD_wt (l : List Df) : (l.flatMap defS).length ≤ 40 * (l.length + wtD l) := by
  induction l with
  | nil => exact Nat.le_refl _
  | cons d l ih =>
    rw [List.flatMap_cons, List.length_append, wtD_cons, List.length_cons]
    have h1 := src_wt d.kids false
    have h2 : (defS d).length = d.name.size + 18 + (d.kids.src false).length := by simp [defS, bra, ket, kDef, endS, bl]; omega
    unfold wt
    omega
theorem wtD_mem {l : List Df} {d : Df} (h : d ∈ l) : d.name.size + wt d.kids ≤ wtD l := by
  induction l with
  | nil => cases h
  | cons x l ih =>
    rw [wtD_cons]
    rcases List.mem_cons.1 h with rfl | h
    · omega
    · have := ih h; omega
theorem cntD_wt (l : List Df) : (l.map fun d => d.kids.cnt).sum ≤ wtD l := by
  induction l with
  | nil => exact Nat.le_refl _
  | cons d l ih =>
    rw [wtD_cons, List.map_cons, List.sum_cons]
    have := cnt_wt d.kids
    unfold wt
    omega
/-- A template that weighs little is one that the walks are for. -/
theorem tmZ_of (t : Tm) (hw : TmW t) (h : wtT t ≤ 16384) : TmZ t := by
  unfold wtT wt at h
  refine ⟨sm_wt t.main 16384 (by omega) hw.main.1 (by omega), fun d hd => ?_, ?_, by omega, ?_⟩
  · have h1 := wtD_mem hd
    unfold wt at h1
    obtain ⟨q1, q2, q3⟩ := hw.defs d hd
    exact ⟨by omega, sm_wt d.kids 16384 (by omega) q2 (by omega)⟩
  · have := cnt_wt t.main
    have := cntD_wt t.defs
    omega
  · unfold Tm.src
    rw [List.length_append]
    have := src_wt t.main false
    have := srcD_wt t.defs
    omega

/-! ### Places -/
theorem era_isNil (t : Pt) : t.era.isNil = t.isNil := by cases t <;> rfl
theorem era_cnt (t : Pt) : t.era.cnt = t.cnt := by
  induction t with
  | nil => rfl
  | cons h k e r ihk ihe ihr => simp [Pt.era, Pt.cnt, ihk, ihe, ihr]
theorem era_deep (t : Pt) : t.era.deep = t.deep := by
  induction t with
  | nil => rfl
  | cons h k e r ihk ihe ihr => simp [Pt.era, Pt.deep, ihk, ihe, ihr, Hd.era]
theorem era_sm (t : Pt) : t.era.sm = t.sm := by
  induction t with
  | nil => rfl
  | cons h k e r ihk ihe ihr => simp [Pt.era, Pt.sm, ihk, ihe, ihr, Hd.era, Hd.sm]
theorem era_src (t : Pt) : ∀ after, t.era.src after = t.src after := by
  induction t with
  | nil => intro after; rfl
  | cons h k e r ihk ihe ihr => intro after; simp only [Pt.era, Pt.src, ihk, ihe, ihr, era_isNil, Hd.era]
theorem era_form (t : Pt) : ∀ free, t.era.form free = t.form free := by
  induction t with
  | nil => intro free; rfl
  | cons h k e r ihk ihe ihr => intro free; simp only [Pt.era, Pt.form, ihk, ihe, ihr, era_isNil, Hd.era, hdOk]
theorem era_called (defs : List Df) (t : Pt) : t.era.called defs = t.called defs := by
  induction t with
  | nil => rfl
  | cons h k e r ihk ihe ihr => simp [Pt.era, Pt.called, ihk, ihe, ihr, Hd.era]
theorem era_called2 {defs defs' : List Df} (h : defs.map Df.era = defs'.map Df.era) (t : Pt) : t.called defs = t.called defs' := by
  induction t with
  | nil => rfl
  | cons x k e r ihk ihe ihr => simp only [Pt.called, ihk, ihe, ihr, hasDef_map _ _ h]
theorem map_era {α : Type} {l l' : List Df} (f : Df → α) (hf : ∀ d, f d.era = f d) (h : l.map Df.era = l'.map Df.era) : l.map f = l'.map f := by
  have e : ∀ l : List Df, l.map f = (l.map Df.era).map f := fun l => by rw [List.map_map]; exact List.map_congr_left (fun d _ => (hf d).symm)
  rw [e, h, ← e]
theorem all_era {l l' : List Df} (f : Df → Bool) (hf : ∀ d, f d.era = f d) (h : l.map Df.era = l'.map Df.era) : l.all f = l'.all f := by
  have e : ∀ l : List Df, l.all f = (l.map f).all id := fun l => by rw [List.all_map]; rfl
  rw [e, map_era f hf h, ← e]
theorem tm_era {x y : Tm} (h : x.era = y.era) : x.main.era = y.main.era ∧ x.defs.map Df.era = y.defs.map Df.era := by
  unfold Tm.era at h; injection h with h1 h2; exact ⟨h1, h2⟩
theorem src_tm {x y : Tm} (h : x.era = y.era) : x.src = y.src := by
  obtain ⟨h1, h2⟩ := tm_era h
  unfold Tm.src
  have e1 : x.main.src false = y.main.src false := by rw [← era_src x.main, h1, era_src]
  have e2 : x.defs.flatMap defS = y.defs.flatMap defS := by
    have q : ∀ l : List Df, l.flatMap defS = (l.map defS).flatten := fun l => by rw [List.flatMap_def]
    rw [q, q, map_era defS (fun d => by simp [defS, Df.era, era_src]) h2]
  rw [e1, e2]
theorem check_tm {x y : Tm} (h : x.era = y.era) : x.check = y.check := by
  obtain ⟨h1, h2⟩ := tm_era h
  unfold Tm.check
  have e1 : x.main.form true = y.main.form true := by rw [← era_form x.main, h1, era_form]
  have e2 : x.main.deep = y.main.deep := by rw [← era_deep x.main, h1, era_deep]
  have e3 : x.main.cnt = y.main.cnt := by rw [← era_cnt x.main, h1, era_cnt]
  have e4 : x.main.called x.defs = y.main.called y.defs := by rw [era_called2 h2, ← era_called _ x.main, h1, era_called]
  have e5 : (x.defs.all fun d => nameOk (bl d.name) && d.kids.form false) = (y.defs.all fun d => nameOk (bl d.name) && d.kids.form false) := all_era _ (fun d => by simp [Df.era, era_form]) h2
  have e6 : (x.defs.map fun d => 1 + d.kids.deep) = (y.defs.map fun d => 1 + d.kids.deep) := map_era _ (fun d => by simp [Df.era, era_deep]) h2
  have e7 : (x.defs.map fun d => bl d.name) = (y.defs.map fun d => bl d.name) := map_era _ (fun d => by simp [Df.era]) h2
  have e8 : (x.defs.map fun d => d.kids.cnt) = (y.defs.map fun d => d.kids.cnt) := map_era _ (fun d => by simp [Df.era, era_cnt]) h2
  have e9 : (x.defs.all fun d => d.kids.called x.defs) = (y.defs.all fun d => d.kids.called y.defs) := by
    have q : (fun d : Df => d.kids.called x.defs) = fun d : Df => d.kids.called y.defs := funext fun d => era_called2 h2 d.kids
    rw [q]; exact all_era _ (fun d => by simp [Df.era, era_called]) h2
  rw [e1, e2, e3, e4, e5, e6, e7, e8, e9, src_tm h]
theorem tmZ_era {x y : Tm} (h : x.era = y.era) (hz : TmZ x) : TmZ y := by
  obtain ⟨h1, h2⟩ := tm_era h
  refine ⟨?_, fun d hd => ?_, ?_, ?_, by rw [← src_tm h]; exact hz.src⟩
  · rw [← era_sm y.main, ← h1, era_sm]; exact hz.main
  · have hm : d.era ∈ x.defs.map Df.era := by rw [h2]; exact List.mem_map_of_mem hd
    obtain ⟨d', hd', he⟩ := List.mem_map.1 hm
    obtain ⟨q1, q2⟩ := hz.defs d' hd'
    unfold Df.era at he
    injection he with k1 k2 k3
    exact ⟨by rw [← k1]; exact q1, by rw [← era_sm d.kids, ← k3, era_sm]; exact q2⟩
  · have e3 : x.main.cnt = y.main.cnt := by rw [← era_cnt x.main, h1, era_cnt]
    have e8 : (x.defs.map fun d => d.kids.cnt) = (y.defs.map fun d => d.kids.cnt) := map_era _ (fun d => by simp [Df.era, era_cnt]) h2
    have := hz.sum
    rw [e3, e8] at this; exact this
  · have := congrArg List.length h2
    simp at this
    rw [← this]; exact hz.len
end Go.Proofs.YtdgcdjpjnhlihaaGreatDoor
