/-
  The contract of lacunaref19.source. The condition: parts of a right form; what is written takes at most 2 to the 24th bytes.
-/
/-
  The contract of lacunaref19.Check. The condition: the template's sizes take at most 2 to the 24th bytes.
-/
/-
  The contract of lacunaref19.Print. The condition: the template's sizes take at most 2 to the 24th bytes.
-/
import Derived.Test.YtdgcdjpjnhlihaaGreatDoorMgTby
import Derived.Test.YtdgcdjpjnhlihaaGreatDoorMgTso
import Derived.Test.YtdgcdjpjnhlihaaGreatDoorTs2M
import Derived.Deep.RegionHeld3
import Derived.Test.YtdgcdjpjnhlihaaGreatDoorMgTk2
set_option linter.unusedVariables false
set_option linter.unusedSimpArgs false
namespace Go.Proofs.YtdgcdjpjnhlihaaGreatDoor
open Go.RowKit Go.Shelf
attribute [local go_sem ↓] Go.wp_at_zero Go.wp_at_succ

set_option maxRecDepth 100000 in
set_option maxHeartbeats 40000000 in
theorem sourceR_calls (t : Tm) (hz : TmZ t) (hfm : t.main.form true = true) (hfd : ∀ d ∈ t.defs, d.kids.form false = true) (vm vd : Value) (w : World) (hp : Parts (· < w.heap.size) w vm t.main) (hd : Defs (· < w.heap.size) w vd t.defs) :
    Calls Tryz.prog 28 #[.agg #[vm, vd]] w fun e w' => e = .returned (.string (mkB t.src)) ∧ Below w.heap.size w w' := by
  obtain ⟨main, defs⟩ := t
  obtain ⟨z1, z2, z3, z4, z5⟩ := hz
  dsimp only at z1 z2 z3 z4 hp hd hfm hfd
  have HT : Hid (Tm.src ⟨main, defs⟩ = defs.flatMap defS ++ main.src false) := rfl
  have hml : (main.src false).length ≤ 16777216 := by rw [HT.out, List.length_append] at z5; omega
  have MC : Hid (∀ W, Below w.heap.size w W → Calls Tryz.prog 60 #[vm] W fun e w' => e = .returned (.string (mkB (main.src false))) ∧ Below W.heap.size W w') := fun W hW =>
    printR_calls main true vm W z1 hfm (by omega) hml ((hp.kept (fun b hb => hW.block b hb)).mono (fun b hb => Nat.lt_of_lt_of_le hb hW.size))
  obtain ⟨am, cm, rfl, -⟩ := hp
  obtain ⟨a, c, rfl, h1, h2, h3⟩ := hd.lt
  have H3 := Lib.hid h3
  have HZ2 := Lib.hid z2
  have HZ5 := Lib.hid z5
  have HFD := Lib.hid hfd
  have HSU := Lib.hid z3
  have HB0 : Hid (Below w.heap.size w (w.alloc (.cells #[.slice am main.len cm, .slice a defs.length c] 25))) := (Below.refl _ w).alloc (Nat.le_refl _) _
  have HT0 : Hid ((w.alloc (.cells #[.slice am main.len cm, .slice a defs.length c] 25)).heap[w.heap.size]? = some (.cells #[.slice am main.len cm, .slice a defs.length c] 25 (0, 0))) := heap_alloc_new w _
  have HS0 : Hid ((w.alloc (.cells #[.slice am main.len cm, .slice a defs.length c] 25)).heap.size = w.heap.size + 1) := by unfold Hid; simp
  clear h3 hd h1 h2 z1 z2 z3 z5 hfd hml
  go_enter Tryz.func28, Tryz.ntmps28
  go_wp2_with fail
  generalize hWW : World.alloc w _ = W0 at *
  clear hWW
  go_loopw [3, 4] (fun v3 v4 wr => ∃ (s : ByteArray) (k : Nat), v3 = .string s ∧ v4 = .int .i64 (k : Nat) ∧ k ≤ defs.length ∧ Hid (bl s ++ (defs.drop k).flatMap defS ++ main.src false = Tm.src ⟨main, defs⟩) ∧ Hid (Below (w.heap.size + 1) W0 wr)) (fun _ i _ => defs.length - (intOf i).toNat)
  case atStart => exact ⟨⟨#[]⟩, 0, rfl, rfl, Nat.zero_le _, by unfold Hid; rw [HT.out]; rfl, Below.refl _ _⟩
  case round =>
    obtain ⟨s, k, rfl, rfl, hk, HE, HB⟩ := hrel
    have HBW : Hid (Below w.heap.size w wr) := HB0.out.trans (HB.out.mono (by omega))
    have hsz : w.heap.size + 1 ≤ wr.heap.size := by have := HB.out.size; have := HS0.out; omega
    have t0 : wr.cell? ⟨w.heap.size, 0, none⟩ = some (.slice am main.len cm) := by rw [cell_of_heap' ((HB.out.block _ (by omega)).trans HT0.out)]; rfl
    have t1 : wr.cell? ⟨w.heap.size, 1, none⟩ = some (.slice a defs.length c) := by rw [cell_of_heap' ((HB.out.block _ (by omega)).trans HT0.out)]; rfl
    have hs0 : s.size + (main.src false).length ≤ 16777216 := by
      have := HZ5.out; rw [← HE.out] at this
      simp only [List.length_append] at this
      have e : (bl s).length = s.size := rfl
      omega
    by_cases hlt : k < defs.length
    · have hlt' : (k : Int) < (defs.length : Int) := by omega
      have hk0 : (0 : Int) ≤ (k : Int) := by omega
      obtain ⟨d, hdk⟩ : ∃ d, defs[k]? = some d := ⟨_, List.getElem?_eq_getElem hlt⟩
      obtain ⟨b, o, rfl, hb, hrow⟩ := H3.out (by intro e; rw [e] at hlt; simp at hlt)
      obtain ⟨g0, g1, v, g2, hpd⟩ := DRow.at _ _ _ _ _ hdk (hrow.kept (fun b hb => HBW.out.block b hb.2) _ _ _ hb)
      have hdm : d ∈ defs := List.mem_of_getElem? hdk
      have hcd := sum_mem hdm
      have HE2 : Hid (bl s ++ defS d ++ (defs.drop (k + 1)).flatMap defS ++ main.src false = Tm.src ⟨main, defs⟩) := by
        have := HE.out
        rw [drop_defS _ _ _ hdk] at this
        unfold Hid; rw [← this]; simp
      have hld : s.size + (d.name.size + 11 + (d.kids.src false).length + 7) ≤ 16777216 := by
        have h1 := HZ5.out; rw [← HE2.out] at h1
        simp only [List.length_append, defS] at h1
        simp [bra, ket, kDef, endS, bl] at h1
        have e : s.data.size = s.size := rfl
        have e2 : d.name.data.size = d.name.size := rfl
        omega
      obtain ⟨sk, hsk⟩ : ∃ sk, mkB (d.kids.src false) = sk := ⟨_, rfl⟩
      have hszk : sk.size = (d.kids.src false).length := by rw [← hsk]; rfl
      have HSK : Hid (bl sk = d.kids.src false) := by unfold Hid; rw [← hsk]; rfl
      have hwb : wr.heap.size ≤ wr.heap.size := Nat.le_refl _
      have KC : Hid (∀ W, Below wr.heap.size wr W → Calls Tryz.prog 60 #[v] W fun e w' => e = .returned (.string sk) ∧ Below W.heap.size W w') := fun W hW => by
        have := printR_calls d.kids false v W (HZ2.out d hdm).2 (HFD.out d hdm) (by have := HSU.out; omega) (by omega) ((hpd.kept (fun b hb => hW.block b (by have := hb.2; have := HBW.out.size; omega))).mono (fun b hb => by have := hb.2; have := hW.size; have := HBW.out.size; omega))
        unfold PnP at this
        rw [hsk] at this; exact this
      obtain ⟨av, cv, rfl, -⟩ := hpd
      have hbl : b < wr.heap.size := by have := hb.2; have := HBW.out.size; omega
      have z1 : (⟨#[123, 123, 100, 101, 102, 105, 110, 101, 32]⟩ : ByteArray).size = 9 := rfl
      have z2 : (⟨#[125, 125]⟩ : ByteArray).size = 2 := rfl
      have z3 : (s ++ ⟨#[123, 123, 100, 101, 102, 105, 110, 101, 32]⟩ : ByteArray).size = s.size + 9 := by rw [ByteArray.size_append, z1]
      have z6 : (s ++ ⟨#[123, 123, 100, 101, 102, 105, 110, 101, 32]⟩ ++ d.name : ByteArray).size = s.size + 9 + d.name.size := by rw [ByteArray.size_append, z3]
      have z7 : (s ++ ⟨#[123, 123, 100, 101, 102, 105, 110, 101, 32]⟩ ++ d.name ++ ⟨#[125, 125]⟩ : ByteArray).size = s.size + 9 + d.name.size + 2 := by rw [ByteArray.size_append, z6, z2]
      have z8 : (s ++ ⟨#[123, 123, 100, 101, 102, 105, 110, 101, 32]⟩ ++ d.name ++ ⟨#[125, 125]⟩ ++ sk : ByteArray).size = s.size + 9 + d.name.size + 2 + sk.size := by rw [ByteArray.size_append, z7]
      have z9 : (⟨#[123, 123, 101, 110, 100, 125, 125]⟩ : ByteArray).size = 7 := rfl
      have hs1 : s.size ≤ 16777216 := by omega
      have hs2 : d.name.size ≤ 16777216 := by omega
      have hs3 : sk.size ≤ 16777216 := by omega
      have y1 : ¬ 9223372036854775807 < s.size + 9 := by omega
      have y2 : ¬ 9223372036854775807 < s.size + 9 + d.name.size := by omega
      have y3 : ¬ 9223372036854775807 < s.size + 9 + d.name.size + 2 := by omega
      have y4 : ¬ 9223372036854775807 < s.size + 9 + d.name.size + 2 + sk.size := by omega
      have y5 : ¬ 9223372036854775807 < s.size + 9 + d.name.size + 2 + sk.size + 7 := by omega
      have hwr : w.heap.size < wr.heap.size := by omega
      have HDR : Hid (Below wr.heap.size wr wr.drew) := ⟨rfl, rfl, rfl, Nat.le_refl _, fun _ _ => rfl⟩
      have HCL : Hid (∀ W, Below wr.heap.size wr W → Hid (Below wr.heap.size wr W) ∧ W.cell? ⟨w.heap.size, 1, none⟩ = some (.slice (some ⟨b, o, none⟩) defs.length c) ∧ W.cell? ⟨b, o + k * 3, none⟩ = some (.string d.name) ∧ W.cell? ⟨b, o + k * 3 + 2, none⟩ = some (.slice av d.kids.len cv)) := fun W hW =>
        ⟨hW, (hW.cell (p := ⟨w.heap.size, 1, none⟩) hwr).trans t1, (hW.cell (p := ⟨b, _, none⟩) hbl).trans g0, (hW.cell (p := ⟨b, _, none⟩) hbl).trans g2⟩
      have KCW : Hid (∀ W, Hid (Below wr.heap.size wr W) → Calls Tryz.prog 60 #[.slice av d.kids.len cv] W fun e w' => e = .returned (.string sk) ∧ Hid (Below wr.heap.size wr w')) := fun W hW => (KC.out W hW.out).mono (fun e w' h => ⟨h.1, hW.out.trans (h.2.mono hW.out.size)⟩)
      clear hdk hrow hdm hlt hcd hszk hld hsk t0 g1 KC hs0 hwb hsz
      go_upto_region 5 with (fail)
      go_region_held3 (fun W => Hid (Below wr.heap.size wr W) ∧ W.cell? ⟨w.heap.size, 1, none⟩ = some (.slice (some ⟨b, o, none⟩) defs.length c) ∧ W.cell? ⟨b, o + k * 3, none⟩ = some (.string d.name) ∧ W.cell? ⟨b, o + k * 3 + 2, none⟩ = some (.slice av d.kids.len cv)) (first | exact HCL.out _ HDR.out | (apply HCL.out; exact Hid.out (by assumption))) (first | (go_at_call 60; refine (KCW.out _ (by assumption)).mono ?_; rintro e w2 ⟨rfl, hb2⟩))
      have HB3 : Hid (Below (w.heap.size + 1) W0 w2) := HB.out.trans (hb2.out.mono hwr)
      have HE3 : Hid (bl (s ++ ⟨#[123, 123, 100, 101, 102, 105, 110, 101, 32]⟩ ++ d.name ++ ⟨#[125, 125]⟩ ++ sk ++ ⟨#[123, 123, 101, 110, 100, 125, 125]⟩) ++ (defs.drop (k + 1)).flatMap defS ++ main.src false = Tm.src ⟨main, defs⟩) := by
        unfold Hid; rw [← HE2.out, ba_app, ba_app, ba_app, ba_app, ba_app, HSK.out]
        simp [defS, bra, ket, kDef, endS, bl]
      clear y1 y2 y3 y4 y5 z3 z6 z7 z8
      go_wp2_with fail
      exact ⟨⟨_, k + 1, by rfl, by go_num, by omega, HE3, HB3⟩, by simp [intOf]; omega⟩
    · have hge : ¬ (k : Int) < (defs.length : Int) := by omega
      have HE2 : Hid (bl s ++ main.src false = Tm.src ⟨main, defs⟩) := by
        have := HE.out
        rw [List.drop_of_length_le (by omega)] at this
        unfold Hid; simpa using this
      obtain ⟨sm, hsm⟩ : ∃ sm, mkB (main.src false) = sm := ⟨_, rfl⟩
      have MC1 : Hid (Calls Tryz.prog 60 #[.slice am main.len cm] wr fun e w' => e = .returned (.string sm) ∧ Below wr.heap.size wr w') := by
        have := MC.out wr HBW.out; rw [hsm] at this; exact this
      have hss : sm.size = (main.src false).length := by rw [← hsm]; rfl
      have hs1 : s.size ≤ 16777216 := by omega
      have hs2 : sm.size ≤ 16777216 := by omega
      have HF : Hid (s ++ sm = mkB (Tm.src ⟨main, defs⟩)) := by
        unfold Hid; rw [← HE2.out, ← mkB_bl (s ++ sm), ba_app, ← hsm]; rfl
      clear hlt hss hsm hs0
      go_wp2_with fail
      refine MC1.out.mono ?_
      rintro e w2 ⟨rfl, hb2⟩
      have HB2 : Hid (Below w.heap.size w w2) := HBW.out.trans (hb2.mono HBW.out.size)
      clear hb2 t0 t1
      go_wp2_with fail
      go_ret
      exact ⟨congrArg (fun x => Ending.returned (.string x)) HF.out, HB2.out⟩
end Go.Proofs.YtdgcdjpjnhlihaaGreatDoor
set_option linter.unusedVariables false
set_option linter.unusedSimpArgs false
namespace Go.Proofs.YtdgcdjpjnhlihaaGreatDoor
open Go.RowKit Go.Shelf
attribute [local go_sem ↓] Go.wp_at_zero Go.wp_at_succ

def nmD (l : List Df) : List By := l.map fun d => bl d.name
theorem take_snoc' (l : List Df) (k : Nat) (d : Df) (h : l[k]? = some d) : l.take (k + 1) = l.take k ++ [d] := by
  have hlt := (List.getElem?_eq_some_iff.1 h).1
  rw [List.take_succ_eq_append_getElem hlt]
  rw [(List.getElem?_eq_some_iff.1 h).2]
theorem check_if (t : Tm) : t.check = if (t.main.form true && t.defs.all okD) = false then 190 else if 64 < max t.main.deep (deepD t.defs) then 193 else if twice (nmD t.defs) = true then 194 else if (!t.main.called t.defs || !(t.defs.all fun d => d.kids.called t.defs)) = true then 195 else if 1024 < t.main.cnt + cntD t.defs ∨ 16384 < t.src.length then 196 else 0 := by
  unfold Tm.check
  have e : (!t.main.called t.defs || !(t.defs.all fun d => d.kids.called t.defs)) = !(t.main.called t.defs && t.defs.all fun d => d.kids.called t.defs) := by
    cases t.main.called t.defs <;> simp
  rw [e]
  cases hc : (t.main.called t.defs && t.defs.all fun d => d.kids.called t.defs)
  · rfl
  · rfl
set_option maxRecDepth 100000 in
set_option maxHeartbeats 40000000 in
theorem checkR_calls (t : Tm) (hz : TmZ t) (vm vd : Value) (w : World) (hp : Parts (· < w.heap.size) w vm t.main) (hd : Defs (· < w.heap.size) w vd t.defs) : Calls Tryz.prog 15 #[.agg #[vm, vd]] w (CheckR t w) := by
  have SC : Hid (t.main.form true = true → (∀ d ∈ t.defs, d.kids.form false = true) → ∀ W, Below w.heap.size w W → Calls Tryz.prog 28 #[.agg #[vm, vd]] W fun e w' => e = .returned (.string (mkB t.src)) ∧ Below W.heap.size W w') := fun h1 h2 W hW =>
    sourceR_calls t hz h1 h2 vm vd W ((hp.kept (Kept.of_below hW)).mono (fun b hb => Nat.lt_of_lt_of_le hb hW.size)) ((hd.kept (Kept.of_below hW)).mono (fun b hb => Nat.lt_of_lt_of_le hb hW.size))
  have HCK := Lib.hid (check_if t)
  obtain ⟨main, defs⟩ := t
  obtain ⟨z1, z2, z3, z4, z5⟩ := hz
  dsimp only at z1 z2 z3 z4 hp hd SC
  obtain ⟨L, hL⟩ : ∃ L, (Tm.src ⟨main, defs⟩).length = L := ⟨_, rfl⟩
  rw [hL] at z5 HCK
  have HL := Lib.hid hL
  have FC : Hid (∀ W, Below w.heap.size w W → Calls Tryz.prog 30 #[vm, .bool true] W fun e w' => e = .returned (.bool (main.form true)) ∧ Below W.heap.size W w') := fun W hW =>
    formR_calls main true vm W z1 (by omega) ((hp.kept (Kept.of_below hW)).mono (fun b hb => Nat.lt_of_lt_of_le hb hW.size))
  have DC : Hid (∀ W, Below w.heap.size w W → Calls Tryz.prog 31 #[vm] W fun e w' => e = .returned (.int .i64 (main.deep : Nat)) ∧ Below W.heap.size W w') := fun W hW =>
    (deepR_calls main _ vm W (by omega) (hp.kept (Kept.of_below hW))).mono fun e w' h => ⟨h.1, by obtain ⟨n, rfl⟩ := h.2; exact below_drewN (Below.refl _ _) n⟩
  have CC : Hid (∀ W, Below w.heap.size w W → Calls Tryz.prog 32 #[vm] W fun e w' => e = .returned (.int .i64 (main.cnt : Nat)) ∧ Below W.heap.size W w') := fun W hW =>
    (countR_calls main _ vm W (by omega) (hp.kept (Kept.of_below hW))).mono fun e w' h => ⟨h.1, by obtain ⟨n, rfl⟩ := h.2; exact below_drewN (Below.refl _ _) n⟩
  have LC : Hid (∀ W, Below w.heap.size w W → Calls Tryz.prog 33 #[vm, vd] W fun e w' => e = .returned (.bool (main.called defs)) ∧ Below W.heap.size W w') := fun W hW =>
    (calledR_calls defs z4 main _ _ vm vd W (by omega) (hp.kept (Kept.of_below hW)) (hd.kept (Kept.of_below hW))).mono fun e w' h => ⟨h.1, by obtain ⟨n, rfl⟩ := h.2; exact below_drewN (Below.refl _ _) n⟩
  have HDD := Lib.hid hd
  obtain ⟨am, cm, rfl, -⟩ := hp
  obtain ⟨a, c, rfl, h1, h2, h3⟩ := hd.lt
  have H3 := Lib.hid h3
  have HZ2 := Lib.hid z2
  have HZ4 := Lib.hid z4
  have HSU := Lib.hid z3
  have hdm := deep_cnt main
  have hcm : main.cnt ≤ 16000000 := by omega
  obtain ⟨okT, hokT⟩ : ∃ x, (main.form true && defs.all okD) = x := ⟨_, rfl⟩
  obtain ⟨D, hD⟩ : ∃ x, max main.deep (deepD defs) = x := ⟨_, rfl⟩
  obtain ⟨tw, htw⟩ : ∃ x, twice (nmD defs) = x := ⟨_, rfl⟩
  obtain ⟨N, hN⟩ : ∃ x, (!main.called defs || !(defs.all fun d => d.kids.called defs)) = x := ⟨_, rfl⟩
  obtain ⟨M, hM⟩ : ∃ x, main.cnt + cntD defs = x := ⟨_, rfl⟩
  have HOKT := Lib.hid hokT
  have HD := Lib.hid hD
  have HTW := Lib.hid htw
  have HN := Lib.hid hN
  have HM := Lib.hid hM
  have hMb : M ≤ 16000000 := by rw [← hM]; exact z3
  have HCK2 : Hid (Tm.check ⟨main, defs⟩ = if okT = false then 190 else if 64 < D then 193 else if tw = true then 194 else if N = true then 195 else if 1024 < M ∨ 16384 < L then 196 else 0) := by
    unfold Hid; rw [HCK.out]
    dsimp only
    rw [hokT, hD, htw, hN, hM]
  have HB0 : Hid (Below w.heap.size w (w.alloc (.cells #[.slice am main.len cm, .slice a defs.length c] 25))) := (Below.refl w.heap.size w).alloc (Nat.le_refl _) _
  have HT0 : Hid ((w.alloc (.cells #[.slice am main.len cm, .slice a defs.length c] 25)).heap[w.heap.size]? = some (.cells #[.slice am main.len cm, .slice a defs.length c] 25 (0, 0))) := heap_alloc_new w _
  have HS0 : Hid ((w.alloc (.cells #[.slice am main.len cm, .slice a defs.length c] 25)).heap.size = w.heap.size + 1) := by unfold Hid; simp
  clear h3 hd h1 h2 z1 z2 z3 hokT hD htw hN hM HCK hL
  go_enter Tryz.func15, Tryz.ntmps15
  go_upto_region 1 with (fail)
  generalize hWW : World.alloc w _ = W0 at *
  clear hWW
  have HTC : Hid (∀ W, Below (w.heap.size + 1) W0 W → W.cell? ⟨w.heap.size, 0, none⟩ = some (.slice am main.len cm) ∧ W.cell? ⟨w.heap.size, 1, none⟩ = some (.slice a defs.length c) ∧ Below w.heap.size w W ∧ w.heap.size + 1 ≤ W.heap.size) := fun W hW =>
    ⟨by rw [cell_of_heap' ((hW.block _ (by omega)).trans HT0.out)]; rfl, by rw [cell_of_heap' ((hW.block _ (by omega)).trans HT0.out)]; rfl, HB0.out.trans (hW.mono (by omega)), by have := hW.size; rw [HS0.out] at this; exact this⟩
  have HW0 : Hid (Below (w.heap.size + 1) W0 W0) := Below.refl _ _
  obtain ⟨fm, hfm⟩ : ∃ x, main.form true = x := ⟨_, rfl⟩
  obtain ⟨cd, hcd⟩ : ∃ x, main.called defs = x := ⟨_, rfl⟩
  rw [hfm] at FC
  rw [hcd] at LC
  have HFM := Lib.hid hfm
  have HCD := Lib.hid hcd
  clear hfm hcd
  obtain ⟨t0, t1, hb0, hs0⟩ := HTC.out _ HW0.out
  have FC1 := Lib.hid (FC.out _ hb0)
  clear hb0 hs0
  go_wp2_with fail
  refine FC1.out.mono ?_
  rintro e w1 ⟨rfl, hb1⟩
  have HW1 : Hid (Below (w.heap.size + 1) W0 w1) := HW0.out.trans (hb1.mono (by rw [HS0.out]; exact Nat.le_refl _))
  clear hb1 t0 t1 FC1
  obtain ⟨t0, t1, hb1, hs1⟩ := HTC.out _ HW1.out
  have DC1 := Lib.hid (DC.out _ hb1)
  have hs1' := Lib.hid hs1
  clear hb1 hs1
  go_wp2_with fail
  refine DC1.out.mono ?_
  rintro e w2 ⟨rfl, hb2⟩
  have HW2 : Hid (Below (w.heap.size + 1) W0 w2) := HW1.out.trans (hb2.mono hs1'.out)
  clear hb2 t0 t1 DC1
  obtain ⟨t0, t1, hb2, hs2⟩ := HTC.out _ HW2.out
  have CC1 := Lib.hid (CC.out _ hb2)
  have hs2' := Lib.hid hs2
  clear hb2 hs2
  go_wp2_with fail
  refine CC1.out.mono ?_
  rintro e w3 ⟨rfl, hb3⟩
  have HW3 : Hid (Below (w.heap.size + 1) W0 w3) := HW2.out.trans (hb3.mono hs2'.out)
  clear hb3 t0 t1 CC1
  obtain ⟨t0, t1, hb3, hs3⟩ := HTC.out _ HW3.out
  have LC1 := Lib.hid (LC.out _ hb3)
  have hs3' := Lib.hid hs3
  clear hb3 hs3
  go_wp2_with fail
  refine LC1.out.mono ?_
  rintro e w4 ⟨rfl, hb4⟩
  have HW4 : Hid (Below (w.heap.size + 1) W0 w4) := HW3.out.trans (hb4.mono hs3'.out)
  clear hb4 t0 t1 LC1
  have hdpb : main.deep ≤ 16777217 := by omega
  have HI1 : Hid ((fm && (defs.drop 0).all okD) = okT) := by unfold Hid; rw [← HOKT.out, HFM.out]; rfl
  have HI2 : Hid (max main.deep (deepD (defs.drop 0)) = D) := HD.out
  have HI3 : Hid (main.cnt + cntD (defs.drop 0) = M) := HM.out
  have HI4 : Hid ((!cd || !((defs.drop 0).all fun d => d.kids.called defs)) = N) := by unfold Hid; rw [← HN.out, HCD.out]; rfl
  go_wp2_with fail
  go_loopw [3, 4, 5, 6, 7, 8] (fun v3 v4 v5 v6 v7 v8 wr => ∃ (ok tk no : Bool) (dp ct k : Nat), v3 = .bool ok ∧ v4 = .int .i64 (dp : Nat) ∧ v5 = .int .i64 (ct : Nat) ∧ v6 = .bool tk ∧ v7 = .bool no ∧ v8 = .int .i64 (k : Nat) ∧ k ≤ defs.length ∧ dp ≤ 16777217 ∧ Hid ((ok && (defs.drop k).all okD) = okT) ∧ Hid (max dp (deepD (defs.drop k)) = D) ∧ ct + cntD (defs.drop k) = M ∧ Hid (tk = twice (nmD (defs.take k))) ∧ Hid ((no || !((defs.drop k).all fun d => d.kids.called defs)) = N) ∧ Hid (Below (w.heap.size + 1) W0 wr)) (fun _ _ _ _ _ i _ => defs.length - (intOf i).toNat)
  case atStart => exact ⟨fm, false, !cd, main.deep, main.cnt, 0, rfl, rfl, rfl, rfl, rfl, rfl, Nat.zero_le _, hdpb, HI1, HI2, HI3.out, rfl, HI4, HW4⟩
  case round =>
    obtain ⟨ok, tk, no, dp, ct, k, rfl, rfl, rfl, rfl, rfl, rfl, hk, hdp, HJ1, HJ2, hJ3, HJ4, HJ5, HB⟩ := hrel
    obtain ⟨t0, t1, hbw, hsw⟩ := HTC.out _ HB.out
    have HBW := Lib.hid hbw
    clear hbw
    by_cases hlt : k < defs.length
    · have hlt' : (k : Int) < (defs.length : Int) := by omega
      have hk0 : (0 : Int) ≤ (k : Int) := by omega
      obtain ⟨d, hdk⟩ : ∃ d, defs[k]? = some d := ⟨_, List.getElem?_eq_getElem hlt⟩
      obtain ⟨b, o, rfl, hb, hrow⟩ := H3.out (by intro e; rw [e] at hlt; simp at hlt)
      obtain ⟨g0', g1', v, g2', hpd⟩ := DRow.at _ _ _ _ _ hdk hrow
      have hdm : d ∈ defs := List.mem_of_getElem? hdk
      have hcd := sum_mem hdm
      obtain ⟨hzn, hzk⟩ := HZ2.out d hdm
      have hcd2 : d.kids.cnt ≤ 16000000 := by have := HSU.out; omega
      have hdd := deep_cnt d.kids
      have HDR := Lib.hid (drop_cons' defs k d hdk)
      have HTK := Lib.hid (take_snoc' defs k d hdk)
      have HROW : Hid (∀ j (y : Df), defs[j]? = some y → w.cell? ⟨b, o + j * 3, none⟩ = some (.string y.name)) := fun j y hj => (DRow.at _ _ _ _ _ hj hrow).1
      have HG : Hid (∀ W, Below w.heap.size w W → W.cell? ⟨b, o + k * 3, none⟩ = some (.string d.name) ∧ W.cell? ⟨b, o + k * 3 + 2, none⟩ = some v) := fun W hW =>
        ⟨(hW.cell (p := ⟨b, _, none⟩) hb.2).trans g0', (hW.cell (p := ⟨b, _, none⟩) hb.2).trans g2'⟩
      have FK : Hid (∀ W, Below w.heap.size w W → Calls Tryz.prog 30 #[v, .bool false] W fun e w' => e = .returned (.bool (d.kids.form false)) ∧ Below W.heap.size W w') := fun W hW =>
        formR_calls d.kids false v W hzk (by omega) ((hpd.kept (fun b hb => hW.block b hb.2)).mono (fun b hb => Nat.lt_of_lt_of_le hb.2 hW.size))
      have DK : Hid (∀ W, Below w.heap.size w W → Calls Tryz.prog 31 #[v] W fun e w' => e = .returned (.int .i64 (d.kids.deep : Nat)) ∧ Below W.heap.size W w') := fun W hW =>
        (deepR_calls d.kids _ v W (by omega) (hpd.kept (fun b hb => hW.block b hb.2))).mono fun e w' h => ⟨h.1, by obtain ⟨n, rfl⟩ := h.2; exact below_drewN (Below.refl _ _) n⟩
      have CK : Hid (∀ W, Below w.heap.size w W → Calls Tryz.prog 32 #[v] W fun e w' => e = .returned (.int .i64 (d.kids.cnt : Nat)) ∧ Below W.heap.size W w') := fun W hW =>
        (countR_calls d.kids _ v W (by omega) (hpd.kept (fun b hb => hW.block b hb.2))).mono fun e w' h => ⟨h.1, by obtain ⟨n, rfl⟩ := h.2; exact below_drewN (Below.refl _ _) n⟩
      have LK : Hid (∀ W, Below w.heap.size w W → Calls Tryz.prog 33 #[v, .slice (some ⟨b, o, none⟩) defs.length c] W fun e w' => e = .returned (.bool (d.kids.called defs)) ∧ ∃ m, w' = W.drewN m) := fun W hW =>
        calledR_calls defs HZ4.out d.kids _ _ v _ W (by omega) (hpd.kept (fun b hb => hW.block b hb.2)) (HDD.out.kept (fun b hb => hW.block b hb))
      have NK : Hid (∀ W, Calls Tryz.prog 34 #[.string d.name] W fun e w' => e = .returned (.bool (nameOk (bl d.name))) ∧ W = w') := fun W => nameR_calls d.name (by omega) W
      obtain ⟨av, cv, rfl, -⟩ := hpd
      obtain ⟨okn, hokn⟩ : ∃ x, (ok && okD d) = x := ⟨_, rfl⟩
      obtain ⟨non, hnon⟩ : ∃ x, (no || !d.kids.called defs) = x := ⟨_, rfl⟩
      have HOKN := Lib.hid hokn
      have HNON := Lib.hid hnon
      have hct : ct + d.kids.cnt + cntD (defs.drop (k + 1)) = M := by rw [HDR.out, cntD_cons] at hJ3; omega
      have HJ1n : Hid ((okn && (defs.drop (k + 1)).all okD) = okT) := by unfold Hid; rw [← HJ1.out, HDR.out, ← hokn]; simp [Bool.and_assoc]
      have HJ2n : Hid (max (max dp (1 + d.kids.deep)) (deepD (defs.drop (k + 1))) = D) := by unfold Hid; rw [← HJ2.out, HDR.out, deepD_cons, Nat.max_assoc]
      have HJ5n : Hid ((non || !((defs.drop (k + 1)).all fun d => d.kids.called defs)) = N) := by
        unfold Hid; rw [← HJ5.out, HDR.out, ← hnon]
        simp only [List.all_cons, Bool.not_and, Bool.or_assoc]
      clear hdk hrow hdm hlt hcd g0' g1' g2' hzk hokn hnon hJ3
      obtain ⟨g0, g2⟩ := HG.out _ HBW.out
      go_upto_region 9 with (fail)
      go_cut [3] (fun v3 wx => v3 = .bool okn ∧ Hid (Below (w.heap.size + 1) W0 wx))
      case first =>
        cases ok with
        | false =>
          have HE : Hid (false = okn) := by rw [← HOKN.out]; rfl
          go_wp2_with fail
          go_meet
          case rel => exact ⟨by rw [HE.out], HB⟩
        | true =>
          have NK1 := Lib.hid (NK.out wr)
          cases hn : nameOk (bl d.name) with
          | false =>
            have HE : Hid (false = okn) := by rw [← HOKN.out]; unfold okD; rw [hn]; rfl
            rw [hn] at NK1
            clear hn
            go_wp2_with (go_at_call 34; refine NK1.out.mono ?_; rintro e w' ⟨rfl, rfl⟩)
            go_meet
            case rel => exact ⟨by rw [HE.out], HB⟩
          | true =>
            obtain ⟨fv, hfv⟩ : ∃ x, d.kids.form false = x := ⟨_, rfl⟩
            have HE : Hid (fv = okn) := by rw [← HOKN.out]; unfold okD; rw [hn, hfv]; rfl
            rw [hn] at NK1
            have FK1 := Lib.hid (FK.out _ HBW.out)
            rw [hfv] at FK1
            clear hn hfv
            go_wp2_with (first | (go_at_call 34; refine NK1.out.mono ?_; rintro e w' ⟨rfl, rfl⟩) | (go_at_call 30; refine FK1.out.mono ?_; rintro e w5 ⟨rfl, hb5⟩; have HB5 : Hid (Below (w.heap.size + 1) W0 w5) := HB.out.trans (hb5.mono hsw); clear hb5))
            go_meet
            case rel => exact ⟨by rw [HE.out], HB5⟩
      case rest =>
        obtain ⟨rfl, HBc⟩ := hcut
        clear t0 t1 g0 g2 hsw HBW
        obtain ⟨t0, t1, hbw, hsw⟩ := HTC.out _ HBc.out
        obtain ⟨g0, g2⟩ := HG.out _ hbw
        have DK1 := Lib.hid (DK.out _ hbw)
        clear hbw
        go_wp2_with fail
        refine DK1.out.mono ?_
        rintro e w6 ⟨rfl, hb6⟩
        have HB6 : Hid (Below (w.heap.size + 1) W0 w6) := HBc.out.trans (hb6.mono hsw)
        clear hb6 t0 t1 g0 g2 hsw DK1
        obtain ⟨t0, t1, hbw, hsw⟩ := HTC.out _ HB6.out
        obtain ⟨g0, g2⟩ := HG.out _ hbw
        have CK1 := Lib.hid (CK.out _ hbw)
        clear hbw
        go_wp2_with fail
        refine CK1.out.mono ?_
        rintro e w7 ⟨rfl, hb7⟩
        have HB7 : Hid (Below (w.heap.size + 1) W0 w7) := HB6.out.trans (hb7.mono hsw)
        clear hb7 t0 t1 g0 g2 hsw CK1
        obtain ⟨t0, t1, hbw, hsw⟩ := HTC.out _ HB7.out
        obtain ⟨g0, g2⟩ := HG.out _ hbw
        have HBW7 := Lib.hid hbw
        clear hbw
        go_upto_region 12 with (fail)
        go_cut [7] (fun v7 wx => v7 = .bool non ∧ Hid (Below (w.heap.size + 1) W0 wx))
        case first =>
          cases no with
          | true =>
            have HE : Hid (true = non) := by rw [← HNON.out]; rfl
            go_wp2_with fail
            go_quiet (fail)
            generalize hWq : World.drewN w7 _ = wq
            have HBq : Hid (Below (w.heap.size + 1) W0 wq) := by rw [← hWq]; exact below_drewN HB7.out _
            clear hWq
            go_wp2_with fail
            go_meet
            case rel => exact ⟨by rw [HE.out], HBq⟩
          | false =>
            obtain ⟨lv, hlv⟩ : ∃ x, d.kids.called defs = x := ⟨_, rfl⟩
            have HE : Hid ((!lv) = non) := by rw [← HNON.out, hlv]; rfl
            have LK1 : Hid (∀ n, Calls Tryz.prog 33 #[.slice av d.kids.len cv, .slice (some ⟨b, o, none⟩) defs.length c] (w7.drewN n) fun e w' => e = .returned (.bool lv) ∧ ∃ m, w' = (w7.drewN n).drewN m) := fun n => by
              have := LK.out (w7.drewN n) (below_drewN HBW7.out n)
              rw [hlv] at this; exact this
            clear hlv
            go_wp2_with fail
            go_quiet ((go_at_call 33; exact Calls.quiet_of (LK1.out _)))
            generalize hWq : World.drewN w7 _ = wq
            have HBq : Hid (Below (w.heap.size + 1) W0 wq) := by rw [← hWq]; exact below_drewN HB7.out _
            clear hWq
            go_wp2_with fail
            go_meet
            case rel => exact ⟨by rw [HE.out], HBq⟩
        case rest =>
          obtain ⟨rfl, HBe⟩ := hcut
          clear t0 t1 g0 g2 hsw HBW7
          have hkl : k ≤ defs.length := by omega
          go_wp2_with fail
          go_loopw [6, 9] (fun v6 v9 wi => ∃ (t : Bool) (j : Nat), v6 = .bool t ∧ v9 = .int .i64 (j : Nat) ∧ j ≤ k ∧ Hid (t = (tk || (nmD (defs.take j)).contains (bl d.name))) ∧ Hid (Below (w.heap.size + 1) W0 wi)) (fun _ j _ => k - (intOf j).toNat)
          case atStart => exact ⟨tk, 0, rfl, rfl, Nat.zero_le _, by unfold Hid; cases tk <;> rfl, HBe⟩
          case round =>
            obtain ⟨t, j, rfl, rfl, hj, HI, HBI⟩ := hrel
            obtain ⟨t0, t1, hbw, hsw⟩ := HTC.out _ HBI.out
            obtain ⟨g0, g2⟩ := HG.out _ hbw
            have HBWI := Lib.hid hbw
            clear hbw
            have hj0 : (0 : Int) ≤ (j : Int) := by omega
            by_cases hjn : j < k
            · have hjn' : (j : Int) < (k : Int) := by omega
              have hjl : (j : Int) < (defs.length : Int) := by omega
              obtain ⟨y, hjd⟩ : ∃ y, defs[j]? = some y := ⟨_, List.getElem?_eq_getElem (by omega)⟩
              have pd : wr.cell? ⟨b, o + j * 3, none⟩ = some (.string y.name) := (HBWI.out.cell (p := ⟨b, _, none⟩) hb.2).trans (HROW.out j y hjd)
              have HTJ := Lib.hid (take_snoc' defs j y hjd)
              have HCJ : Hid ((nmD (defs.take (j + 1))).contains (bl d.name) = ((nmD (defs.take j)).contains (bl d.name) || (bl y.name == bl d.name))) := by
                unfold Hid nmD
                rw [HTJ.out, List.map_append]
                rw [Bool.eq_iff_iff, Bool.or_eq_true, List.contains_iff_mem, List.contains_iff_mem, List.mem_append, beq_iff_eq]
                simp only [List.map_cons, List.map_nil, List.mem_singleton]
                exact ⟨fun h => h.imp id Eq.symm, fun h => h.imp id Eq.symm⟩
              clear hjd hjn
              cases t with
              | true =>
                have HI2 : Hid (true = (tk || (nmD (defs.take (j + 1))).contains (bl d.name))) := by
                  unfold Hid; rw [HCJ.out, ← Bool.or_assoc, ← HI.out]; rfl
                go_wp2_with fail
                go_quiet (fail)
                generalize hWq : World.drewN wr _ = wq
                have HBq : Hid (Below (w.heap.size + 1) W0 wq) := by rw [← hWq]; exact below_drewN HBI.out _
                clear hWq
                go_wp2_with fail
                exact ⟨⟨true, j + 1, rfl, by go_num, by omega, HI2, HBq⟩, by simp [intOf]; omega⟩
              | false =>
                obtain ⟨q, hq⟩ : ∃ q, (bl y.name == bl d.name) = q := ⟨_, rfl⟩
                have hq' : (y.name.toList == d.name.toList) = q := by rw [ByteArray.toList_eq, ByteArray.toList_eq]; exact hq
                have HI2 : Hid (q = (tk || (nmD (defs.take (j + 1))).contains (bl d.name))) := by
                  unfold Hid; rw [HCJ.out, ← Bool.or_assoc, ← HI.out, hq]; rfl
                clear hq
                go_wp2_with fail
                go_quiet (fail)
                generalize hWq : World.drewN wr _ = wq
                have HBq : Hid (Below (w.heap.size + 1) W0 wq) := by rw [← hWq]; exact below_drewN HBI.out _
                clear hWq
                go_wp2_with fail
                exact ⟨⟨q, j + 1, rfl, by go_num, by omega, HI2, HBq⟩, by simp [intOf]; omega⟩
            · have hjn' : ¬ (j : Int) < (k : Int) := by omega
              obtain rfl : j = k := by omega
              have HJ4n : Hid (t = twice (nmD (defs.take (j + 1)))) := by
                unfold Hid nmD
                rw [HI.out, HTK.out, List.map_append, List.map_cons, List.map_nil, twice_snocK]
                rw [HJ4.out]; rfl
              clear hjn
              go_wp2_with fail
              exact ⟨⟨okn, t, non, max dp (1 + d.kids.deep), ct + d.kids.cnt, j + 1, rfl, by first | rfl | (congr 1; (repeat' split) <;> omega), by go_num, rfl, rfl, by go_num, by omega, by omega, HJ1n, HJ2n, hct, HJ4n, HJ5n, HBI⟩, by simp [intOf]; omega⟩
    · have hge : ¬ (k : Int) < (defs.length : Int) := by omega
      obtain rfl : k = defs.length := by omega
      have hK1 : ok = okT := by have := HJ1.out; rw [List.drop_of_length_le (Nat.le_refl _)] at this; simpa using this
      have hK2 : dp = D := by have := HJ2.out; rw [List.drop_of_length_le (Nat.le_refl _)] at this; simpa [deepD] using this
      have hK3 : ct = M := by rw [List.drop_of_length_le (Nat.le_refl _)] at hJ3; simpa [cntD] using hJ3
      have hK4 : tk = tw := by have := HJ4.out; rw [List.take_of_length_le (Nat.le_refl _)] at this; rw [this]; exact HTW.out
      have hK5 : no = N := by have := HJ5.out; rw [List.drop_of_length_le (Nat.le_refl _)] at this; simpa using this
      subst hK1 hK2 hK3 hK4 hK5
      clear HJ1 HJ2 hJ3 HJ4 HJ5 hlt
      cases ok with
      | false =>
        have HE : Hid (Tm.check ⟨main, defs⟩ = 190) := by unfold Hid; rw [HCK2.out]; rfl
        go_wp2_with fail
        go_ret
        exact ⟨by rw [HE.out]; rfl, HBW.out⟩
      | true =>
        by_cases hd64 : 64 < dp
        · have hd64' : (64 : Int) < (dp : Int) := by omega
          have HE : Hid (Tm.check ⟨main, defs⟩ = 193) := by unfold Hid; rw [HCK2.out, if_neg (by decide), if_pos hd64]
          clear hd64
          go_wp2_with fail
          go_ret
          exact ⟨by rw [HE.out]; rfl, HBW.out⟩
        · have hd64' : ¬ (64 : Int) < (dp : Int) := by omega
          have HCK3 : Hid (Tm.check ⟨main, defs⟩ = if tk = true then 194 else if no = true then 195 else if 1024 < ct ∨ 16384 < L then 196 else 0) := by unfold Hid; rw [HCK2.out, if_neg (by decide), if_neg hd64]
          clear hd64
          cases tk with
          | true =>
            have HE : Hid (Tm.check ⟨main, defs⟩ = 194) := by unfold Hid; rw [HCK3.out]; rfl
            go_wp2_with fail
            go_ret
            exact ⟨by rw [HE.out]; rfl, HBW.out⟩
          | false =>
            cases no with
            | true =>
              have HE : Hid (Tm.check ⟨main, defs⟩ = 195) := by unfold Hid; rw [HCK3.out]; rfl
              go_wp2_with fail
              go_ret
              exact ⟨by rw [HE.out]; rfl, HBW.out⟩
            | false =>
              have HCK4 : Hid (Tm.check ⟨main, defs⟩ = if 1024 < ct ∨ 16384 < L then 196 else 0) := by unfold Hid; rw [HCK3.out]; rfl
              by_cases hct : 1024 < ct
              · have hct' : (1024 : Int) < (ct : Int) := by omega
                have HE : Hid (Tm.check ⟨main, defs⟩ = 196) := by unfold Hid; rw [HCK4.out, if_pos (.inl hct)]
                clear hct
                go_wp2_with fail
                go_ret
                exact ⟨by rw [HE.out]; rfl, HBW.out⟩
              · have hct' : ¬ (1024 : Int) < (ct : Int) := by omega
                have hok := HOKT.out
                rw [Bool.and_eq_true, List.all_eq_true] at hok
                have SC1 := Lib.hid (SC.out hok.1 (fun d hd => by have := hok.2 d hd; unfold okD at this; rw [Bool.and_eq_true] at this; exact this.2) _ HBW.out)
                obtain ⟨sr, hsr⟩ : ∃ sr, mkB (Tm.src ⟨main, defs⟩) = sr := ⟨_, rfl⟩
                rw [hsr] at SC1
                have hsl : sr.size = L := by rw [← hsr, ← HL.out]; rfl
                by_cases hL : 16384 < sr.size
                · have hL' : (16384 : Int) < (sr.size : Int) := by omega
                  have HE : Hid (Tm.check ⟨main, defs⟩ = 196) := by unfold Hid; rw [HCK4.out, if_pos (.inr (by omega))]
                  clear hct hok hsr hsl hL
                  go_wp2_with fail
                  refine SC1.out.mono ?_
                  rintro e w9 ⟨rfl, hb9⟩
                  have HB9 : Hid (Below w.heap.size w w9) := HBW.out.trans (hb9.mono HBW.out.size)
                  clear hb9 t0 t1
                  go_wp2_with fail
                  go_ret
                  exact ⟨by rw [HE.out]; rfl, HB9.out⟩
                · have hL' : ¬ (16384 : Int) < (sr.size : Int) := by omega
                  have HE : Hid (Tm.check ⟨main, defs⟩ = 0) := by unfold Hid; rw [HCK4.out, if_neg (by omega)]
                  clear hct hok hsr hsl hL
                  go_wp2_with fail
                  refine SC1.out.mono ?_
                  rintro e w9 ⟨rfl, hb9⟩
                  have HB9 : Hid (Below w.heap.size w w9) := HBW.out.trans (hb9.mono HBW.out.size)
                  clear hb9 t0 t1
                  go_wp2_with fail
                  go_ret
                  exact ⟨by rw [HE.out]; rfl, HB9.out⟩
end Go.Proofs.YtdgcdjpjnhlihaaGreatDoor
set_option linter.unusedSimpArgs false
set_option linter.unusedVariables false
namespace Go.Proofs.YtdgcdjpjnhlihaaGreatDoor
open Go.RowKit Go.Shelf
attribute [local go_sem ↓] Go.wp_at_zero Go.wp_at_succ

theorem check_zero (t : Tm) (h : t.check = 0) : t.main.form true = true ∧ ∀ d ∈ t.defs, d.kids.form false = true := by
  rw [check_if] at h
  split at h
  · cases h
  · rename_i hn
    have : (t.main.form true && t.defs.all okD) = true := by simpa using hn
    rw [Bool.and_eq_true, List.all_eq_true] at this
    exact ⟨this.1, fun d hd => by have := this.2 d hd; unfold okD at this; rw [Bool.and_eq_true] at this; exact this.2⟩
set_option maxHeartbeats 4000000 in
theorem printRef_calls (t : Tm) (hz : TmZ t) (vm vd : Value) (w : World) (hp : Parts (· < w.heap.size) w vm t.main) (hd : Defs (· < w.heap.size) w vd t.defs) : Calls Tryz.prog 13 #[.agg #[vm, vd]] w (PrintR t w) := by
  have HB0 : Hid (Below w.heap.size w (w.alloc (.cells #[vm, vd] 25))) := (Below.refl w.heap.size w).alloc (Nat.le_refl _) _
  have SC : Hid (t.check = 0 → ∀ W, Below w.heap.size w W → Calls Tryz.prog 28 #[.agg #[vm, vd]] W fun e w' => e = .returned (.string (mkB t.src)) ∧ Below W.heap.size W w') := fun h0 W hW =>
    sourceR_calls t hz (check_zero t h0).1 (check_zero t h0).2 vm vd W ((hp.kept (Kept.of_below hW)).mono (fun b hb => Nat.lt_of_lt_of_le hb hW.size)) ((hd.kept (Kept.of_below hW)).mono (fun b hb => Nat.lt_of_lt_of_le hb hW.size))
  have CC : Hid (∀ W, Below w.heap.size w W → Calls Tryz.prog 15 #[.agg #[vm, vd]] W (CheckR t W)) := fun W hW =>
    checkR_calls t hz vm vd W ((hp.kept (Kept.of_below hW)).mono (fun b hb => Nat.lt_of_lt_of_le hb hW.size)) ((hd.kept (Kept.of_below hW)).mono (fun b hb => Nat.lt_of_lt_of_le hb hW.size))
  have HT0 : Hid ((w.alloc (.cells #[vm, vd] 25)).heap[w.heap.size]? = some (.cells #[vm, vd] 25 (0, 0))) := heap_alloc_new w _
  have HPS : Hid (printS t = if t.check = 0 then mkB t.src else ⟨#[]⟩) := rfl
  obtain ⟨am, cm, rfl, -⟩ := hp
  obtain ⟨a, c, rfl, -⟩ := hd
  clear hz
  obtain ⟨n, hn⟩ : ∃ n, t.check = n := ⟨_, rfl⟩
  have HN := Lib.hid hn
  clear hn
  go_enter Tryz.func13, Tryz.ntmps13
  go_wp2_with fail
  refine (CC.out _ HB0.out).mono ?_
  rintro e w1 ⟨rfl, hb1⟩
  have HB1 : Hid (Below w.heap.size w w1) := HB0.out.trans (hb1.mono (by simp))
  have HT1 : Hid (w1.heap[w.heap.size]? = some (.cells #[.slice am t.main.len cm, .slice a t.defs.length c] 25 (0, 0))) := (hb1.block _ (by simp)).trans HT0.out
  clear hb1
  have t0 : w1.cell? ⟨w.heap.size, 0, none⟩ = some (.slice am t.main.len cm) := by rw [cell_of_heap' HT1.out]; rfl
  have t1 : w1.cell? ⟨w.heap.size, 1, none⟩ = some (.slice a t.defs.length c) := by rw [cell_of_heap' HT1.out]; rfl
  rw [HN.out]
  by_cases h0 : n = 0
  · subst h0
    go_wp2_with fail
    refine (SC.out HN.out _ HB1.out).mono ?_
    rintro e w2 ⟨rfl, hb2⟩
    have HB2 := Lib.hid (HB1.out.trans (hb2.mono HB1.out.size))
    clear hb2 t0 t1
    go_wp2_with fail
    go_ret2
    exact ⟨by rw [HPS.out, if_pos HN.out, HN.out]; rfl, HB2.out⟩
  · have f0 : ((n : Int) == 0) = false := beq_eq_false_iff_ne.2 (by omega)
    have f1 : ((n : Int) != 0) = true := by simp; omega
    have f2 : ¬ (n : Int) = 0 := by omega
    have H0 := Lib.hid h0
    clear h0
    go_wp2_with fail
    go_ret2
    exact ⟨by rw [HPS.out, HN.out, if_neg H0.out]; rfl, HB1.out⟩
end Go.Proofs.YtdgcdjpjnhlihaaGreatDoor
