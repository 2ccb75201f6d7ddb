/-
  The contract of lacunaref19.count. The condition: no more than 2 to the 24th parts.
-/
/-
  The contract of lacunaref19.deep. The condition: no more than 2 to the 24th parts.
-/
/-
  The contract of lacunaref19.called. The condition: no more than 2 to the 24th parts.
-/
import Derived.Test.YtdgcdjpjnhlihaaGreatDoorMgTq1
import Derived.Test.YtdgcdjpjnhlihaaGreatDoorTg0M
import Derived.Test.YtdgcdjpjnhlihaaGreatDoorMgTg1
set_option linter.unusedVariables false
set_option linter.unusedSimpArgs false
namespace Go.Proofs.YtdgcdjpjnhlihaaGreatDoor
open Go.RowKit Go.Shelf
attribute [local go_sem ↓] Go.wp_at_zero Go.wp_at_succ

def CtP (x : Pt) (w : World) (e : Ending) (w' : World) : Prop := e = .returned (.int .i64 (x.cnt : Nat)) ∧ Qt w w'
def CtSaid (n : Nat) : Prop := ∀ (x : Pt), x.cnt < n → ∀ (ok : Nat → Prop) (v : Value) (w : World), x.cnt ≤ 16777216 → Parts ok w v x → Calls Tryz.prog 32 #[v] w (CtP x w)
theorem len_cnt (x : Pt) : x.len ≤ x.cnt := by
  induction x with
  | nil => exact Nat.le_refl _
  | cons h k e r _ _ ih => simp only [Pt.len, Pt.cnt]; omega
set_option maxRecDepth 100000 in
set_option maxHeartbeats 40000000 in
theorem ct_step (n : Nat) (ih : CtSaid n) : CtSaid (n + 1) := by
  intro x hn ok v w hcx hx
  obtain ⟨a, c, rfl, h1, h2, h3⟩ := hx.lt
  have HX : Hid (Rest ok a w x 0) := fun hne => by
    obtain ⟨b, o, q1, q2, q3⟩ := h3 hne
    exact ⟨b, o, q1, q2, by rw [Nat.zero_mul, Nat.add_zero]; exact q3⟩
  have IH := Lib.hid ih
  have hlc := len_cnt x
  clear h3 hx h1 h2 ih
  go_enter Tryz.func32, Tryz.ntmps32
  go_wp2_with fail
  go_loopw [3, 4] (fun v5 v6 wr => ∃ (s k : Nat) (r : Pt), v5 = .int .i64 (s : Nat) ∧ v6 = .int .i64 (k : Nat) ∧ k + r.len = x.len ∧ s + r.cnt = x.cnt + r.len ∧ Hid (Rest ok a w r k) ∧ r.cnt ≤ x.cnt ∧ Hid (Qt w wr)) (fun _ i _ => x.len - (intOf i).toNat)
  case atStart => exact ⟨x.len, 0, x, rfl, rfl, by omega, by omega, HX, Nat.le_refl _, Qt.refl _⟩
  case round =>
    obtain ⟨s, k, r, rfl, rfl, hk, hsr, HR, hcn, HB⟩ := hrel
    cases r with
    | nil =>
      simp only [Pt.len, Pt.cnt] at hk hsr
      have hge : ¬ (k : Int) < (x.len : Int) := by omega
      have hsx : s = x.cnt := by omega
      subst hsx
      go_wp2_with fail
      go_ret
      exact ⟨rfl, HB.out⟩
    | cons h kd el r =>
      simp only [Pt.len] at hk hsr
      simp only [Pt.cnt] at hcn hsr
      have hkt : (k : Int) < (x.len : Int) := by omega
      have hk0 : (0 : Int) ≤ (k : Int) := by omega
      obtain ⟨b, o, rfl, hb, hrow⟩ := HR.out (by simp)
      have HRS : Hid (Rest ok (some ⟨b, o, none⟩) w r (k + 1)) := fun _ => ⟨b, o, rfl, hb, by have := hrow.2.2.2; rwa [show o + k * 8 + 8 = o + (k + 1) * 8 by omega] at this⟩
      obtain ⟨-, ⟨ak, ck, g6, k1, k2, k3⟩, ⟨ae, ce, g7, e1, e2, e3⟩, -⟩ := hrow
      have KC : Hid (∀ W, Qt w W → Calls Tryz.prog 32 #[.slice ak kd.len ck] W fun e w' => e = .returned (.int .i64 (kd.cnt : Nat)) ∧ ∃ n, w' = W.drewN n) := fun W hW =>
        IH.out kd (by omega) (fun b => ok b ∧ b < w.heap.size) _ W (by omega) (Parts.kept ⟨ak, ck, rfl, k1, k2, k3⟩ (fun b hb => hW.block b))
      have EC : Hid (∀ W, Qt w W → Calls Tryz.prog 32 #[.slice ae el.len ce] W fun e w' => e = .returned (.int .i64 (el.cnt : Nat)) ∧ ∃ n, w' = W.drewN n) := fun W hW =>
        IH.out el (by omega) (fun b => ok b ∧ b < w.heap.size) _ W (by omega) (Parts.kept ⟨ae, ce, rfl, e1, e2, e3⟩ (fun b hb => hW.block b))
      have p6 : wr.cell? ⟨b, o + k * 8 + 6, none⟩ = some (.slice ak kd.len ck) := (HB.out.cell ⟨b, _, none⟩).trans g6
      have p7 : wr.cell? ⟨b, o + k * 8 + 7, none⟩ = some (.slice ae el.len ce) := (HB.out.cell ⟨b, _, none⟩).trans g7
      have wr1 : IntKind.i64.wrap ((s : Int) + (kd.cnt : Int)) = (s : Int) + (kd.cnt : Int) := IntWalk.i64_in _ ⟨by omega, by omega⟩
      have wr2 : IntKind.i64.wrap ((s : Int) + (kd.cnt : Int) + (el.cnt : Int)) = (s : Int) + (kd.cnt : Int) + (el.cnt : Int) := IntWalk.i64_in _ ⟨by omega, by omega⟩
      clear k3 e3 g6 g7
      have HKI := Lib.hid hk
      have HSI := Lib.hid hsr
      have hki : k + 1 + r.len ≤ x.len := by omega
      clear hk hsr
      go_wp2_with fail
      go_quiet ((go_at_call 32; first | with_reducible exact Calls.quiet_of (KC.out _ (HB.out.drewN _)) | with_reducible exact Calls.quiet_of (EC.out _ (HB.out.drewN _))))
      generalize hWq : World.drewN wr _ = w1
      have HBq : Hid (Qt w w1) := by rw [← hWq]; exact HB.out.drewN _
      clear hWq
      go_wp2_with fail
      exact ⟨⟨s + kd.cnt + el.cnt, k + 1, r, by go_num, by go_num, by have := HKI.out; omega, by have := HSI.out; omega, HRS, by omega, HBq⟩, by simp [intOf]; omega⟩
theorem ct_all (n : Nat) : CtSaid n := by
  induction n with
  | zero => intro x h; exact absurd h (Nat.not_lt_zero _)
  | succ n ih => exact ct_step n ih
theorem countR_calls (x : Pt) (ok : Nat → Prop) (v : Value) (w : World) (hc : x.cnt ≤ 16777216) (hx : Parts ok w v x) : Calls Tryz.prog 32 #[v] w (CtP x w) :=
  ct_all (x.cnt + 1) x (Nat.lt_succ_self _) ok v w hc hx
end Go.Proofs.YtdgcdjpjnhlihaaGreatDoor
set_option linter.unusedVariables false
set_option linter.unusedSimpArgs false
namespace Go.Proofs.YtdgcdjpjnhlihaaGreatDoor
open Go.RowKit Go.Shelf
attribute [local go_sem ↓] Go.wp_at_zero Go.wp_at_succ

def DpP (x : Pt) (w : World) (e : Ending) (w' : World) : Prop := e = .returned (.int .i64 (x.deep : Nat)) ∧ Qt w w'
def DpSaid (n : Nat) : Prop := ∀ (x : Pt), x.cnt < n → ∀ (ok : Nat → Prop) (v : Value) (w : World), x.cnt ≤ 16777216 → Parts ok w v x → Calls Tryz.prog 31 #[v] w (DpP x w)
theorem deep_cnt (x : Pt) : x.deep ≤ x.cnt := by
  induction x with
  | nil => exact Nat.le_refl _
  | cons h k e r ihk ihe ihr => simp only [Pt.deep, Pt.cnt]; split <;> omega
set_option maxRecDepth 100000 in
set_option maxHeartbeats 40000000 in
theorem dp_step (n : Nat) (ih : DpSaid n) : DpSaid (n + 1) := by
  intro x hn ok v w hcx hx
  obtain ⟨a, c, rfl, h1, h2, h3⟩ := hx.lt
  have HX : Hid (Rest ok a w x 0) := fun hne => by
    obtain ⟨b, o, q1, q2, q3⟩ := h3 hne
    exact ⟨b, o, q1, q2, by rw [Nat.zero_mul, Nat.add_zero]; exact q3⟩
  have IH := Lib.hid ih
  have hlc := len_cnt x
  have hdx := deep_cnt x
  clear h3 hx h1 h2 ih
  go_enter Tryz.func31, Tryz.ntmps31
  go_wp2_with fail
  go_loopw [3, 4] (fun v5 v6 wr => ∃ (s k : Nat) (r : Pt), v5 = .int .i64 (s : Nat) ∧ v6 = .int .i64 (k : Nat) ∧ k + r.len = x.len ∧ max s r.deep = x.deep ∧ Hid (Rest ok a w r k) ∧ r.cnt ≤ x.cnt ∧ Hid (Qt w wr)) (fun _ i _ => x.len - (intOf i).toNat)
  case atStart => exact ⟨0, 0, x, rfl, rfl, by omega, by omega, HX, Nat.le_refl _, Qt.refl _⟩
  case round =>
    obtain ⟨s, k, r, rfl, rfl, hk, hsr, HR, hcn, HB⟩ := hrel
    cases r with
    | nil =>
      simp only [Pt.len, Pt.deep] at hk hsr
      have hge : ¬ (k : Int) < (x.len : Int) := by omega
      have hsx : s = x.deep := by omega
      subst hsx
      go_wp2_with fail
      go_ret
      exact ⟨rfl, HB.out⟩
    | cons h kd el r =>
      simp only [Pt.len] at hk
      simp only [Pt.cnt] at hcn
      simp only [Pt.deep] at hsr
      have hkt : (k : Int) < (x.len : Int) := by omega
      have hk0 : (0 : Int) ≤ (k : Int) := by omega
      obtain ⟨b, o, rfl, hb, hrow⟩ := HR.out (by simp)
      have HRS : Hid (Rest ok (some ⟨b, o, none⟩) w r (k + 1)) := fun _ => ⟨b, o, rfl, hb, by have := hrow.2.2.2; rwa [show o + k * 8 + 8 = o + (k + 1) * 8 by omega] at this⟩
      obtain ⟨⟨g0, -⟩, ⟨ak, ck, g6, k1, k2, k3⟩, ⟨ae, ce, g7, e1, e2, e3⟩, -⟩ := hrow
      have KC : Hid (∀ W, Qt w W → Calls Tryz.prog 31 #[.slice ak kd.len ck] W fun e w' => e = .returned (.int .i64 (kd.deep : Nat)) ∧ ∃ n, w' = W.drewN n) := fun W hW =>
        IH.out kd (by omega) (fun b => ok b ∧ b < w.heap.size) _ W (by omega) (Parts.kept ⟨ak, ck, rfl, k1, k2, k3⟩ (fun b hb => hW.block b))
      have EC : Hid (∀ W, Qt w W → Calls Tryz.prog 31 #[.slice ae el.len ce] W fun e w' => e = .returned (.int .i64 (el.deep : Nat)) ∧ ∃ n, w' = W.drewN n) := fun W hW =>
        IH.out el (by omega) (fun b => ok b ∧ b < w.heap.size) _ W (by omega) (Parts.kept ⟨ae, ce, rfl, e1, e2, e3⟩ (fun b hb => hW.block b))
      have p0 : wr.cell? ⟨b, o + k * 8, none⟩ = some (.int .u8 (h.kind : Nat)) := (HB.out.cell ⟨b, _, none⟩).trans g0
      have p6 : wr.cell? ⟨b, o + k * 8 + 6, none⟩ = some (.slice ak kd.len ck) := (HB.out.cell ⟨b, _, none⟩).trans g6
      have p7 : wr.cell? ⟨b, o + k * 8 + 7, none⟩ = some (.slice ae el.len ce) := (HB.out.cell ⟨b, _, none⟩).trans g7
      have hdk := deep_cnt kd
      have hde := deep_cnt el
      have wr1 : IntKind.i64.wrap (1 + (kd.deep : Int)) = 1 + (kd.deep : Int) := IntWalk.i64_in _ ⟨by omega, by omega⟩
      have wr2 : IntKind.i64.wrap (1 + (el.deep : Int)) = 1 + (el.deep : Int) := IntWalk.i64_in _ ⟨by omega, by omega⟩
      clear k3 e3 g6 g7 g0
      have HKI := Lib.hid hk
      have HSI := Lib.hid hsr
      have hki : k + 1 + r.len ≤ x.len := by omega
      clear hk hsr
      by_cases h34 : h.kind = 3 ∨ h.kind = 4
      · have HSJ : Hid (max (max s (max (1 + kd.deep) (1 + el.deep))) r.deep = x.deep) := by unfold Hid; rw [← HSI.out, if_pos h34, Nat.max_assoc]
        rcases h34 with h3 | h4
        · rw [h3] at p0
          clear HSI h3
          go_wp2_with fail
          go_quiet ((go_at_call 31; first | with_reducible exact Calls.quiet_of (KC.out _ (HB.out.drewN _)) | with_reducible exact Calls.quiet_of (EC.out _ (HB.out.drewN _))))
          generalize hWq : World.drewN wr _ = w1
          have HBq : Hid (Qt w w1) := by rw [← hWq]; exact HB.out.drewN _
          clear hWq
          go_wp2_with fail
          exact ⟨⟨max s (max (1 + kd.deep) (1 + el.deep)), k + 1, r, by congr 1; (repeat' split) <;> omega, by go_num, by have := HKI.out; omega, HSJ.out, HRS, by omega, HBq⟩, by simp [intOf]; omega⟩
        · rw [h4] at p0
          clear HSI h4
          go_wp2_with fail
          go_quiet ((go_at_call 31; first | with_reducible exact Calls.quiet_of (KC.out _ (HB.out.drewN _)) | with_reducible exact Calls.quiet_of (EC.out _ (HB.out.drewN _))))
          generalize hWq : World.drewN wr _ = w1
          have HBq : Hid (Qt w w1) := by rw [← hWq]; exact HB.out.drewN _
          clear hWq
          go_wp2_with fail
          exact ⟨⟨max s (max (1 + kd.deep) (1 + el.deep)), k + 1, r, by congr 1; (repeat' split) <;> omega, by go_num, by have := HKI.out; omega, HSJ.out, HRS, by omega, HBq⟩, by simp [intOf]; omega⟩
      · have HSJ : Hid (max s r.deep = x.deep) := by unfold Hid; rw [← HSI.out, if_neg h34, Nat.zero_max]
        have f3 : ((h.kind : Int) == 3) = false := beq_eq_false_iff_ne.2 (by omega)
        have f4 : ((h.kind : Int) == 4) = false := beq_eq_false_iff_ne.2 (by omega)
        clear HSI h34
        go_wp2_with fail
        exact ⟨⟨s, k + 1, r, rfl, by go_num, by have := HKI.out; omega, HSJ.out, HRS, by omega, HB⟩, by simp [intOf]; omega⟩
theorem dp_all (n : Nat) : DpSaid n := by
  induction n with
  | zero => intro x h; exact absurd h (Nat.not_lt_zero _)
  | succ n ih => exact dp_step n ih
theorem deepR_calls (x : Pt) (ok : Nat → Prop) (v : Value) (w : World) (hc : x.cnt ≤ 16777216) (hx : Parts ok w v x) : Calls Tryz.prog 31 #[v] w (DpP x w) :=
  dp_all (x.cnt + 1) x (Nat.lt_succ_self _) ok v w hc hx
end Go.Proofs.YtdgcdjpjnhlihaaGreatDoor
set_option linter.unusedVariables false
set_option linter.unusedSimpArgs false
namespace Go.Proofs.YtdgcdjpjnhlihaaGreatDoor
open Go.RowKit Go.Shelf
attribute [local go_sem ↓] Go.wp_at_zero Go.wp_at_succ

def CdP (ds : List Df) (x : Pt) (w : World) (e : Ending) (w' : World) : Prop := e = .returned (.bool (x.called ds)) ∧ Qt w w'
def CdSaid (ds : List Df) (n : Nat) : Prop := ∀ (x : Pt), x.cnt < n → ∀ (ok ok' : Nat → Prop) (v v' : Value) (w : World), x.cnt ≤ 16777216 → Parts ok w v x → Defs ok' w v' ds → Calls Tryz.prog 33 #[v, v'] w (CdP ds x w)
theorem hasDef_cons (d : Df) (l : List Df) (n : By) : hasDef (d :: l) n = ((bl d.name == n) || hasDef l n) := rfl
set_option maxRecDepth 100000 in
set_option maxHeartbeats 40000000 in
theorem cd_step (ds : List Df) (hdl : ds.length ≤ 16777216) (n : Nat) (ih : CdSaid ds n) : CdSaid ds (n + 1) := by
  intro x hn ok ok' v v' w hcx hx hd
  have HDD := Lib.hid hd
  obtain ⟨a, c, rfl, h1, h2, h3⟩ := hx.lt
  obtain ⟨a', c', rfl, d1, d2, d3⟩ := hd
  have HX : Hid (Rest ok a w x 0) := fun hne => by
    obtain ⟨b, o, q1, q2, q3⟩ := h3 hne
    exact ⟨b, o, q1, q2, by rw [Nat.zero_mul, Nat.add_zero]; exact q3⟩
  have HD3 := Lib.hid d3
  have IH := Lib.hid ih
  have hlc := len_cnt x
  clear h3 hx h1 h2 ih d1 d2 d3
  go_enter Tryz.func33, Tryz.ntmps33
  go_wp2_with fail
  go_loopw [5] (fun v5 wr => ∃ (k : Nat) (r : Pt), v5 = .int .i64 (k : Nat) ∧ k + r.len = x.len ∧ Hid (r.called ds = x.called ds) ∧ Hid (Rest ok a w r k) ∧ r.cnt ≤ x.cnt ∧ Hid (Qt w wr)) (fun i _ => x.len - (intOf i).toNat)
  case atStart => exact ⟨0, x, rfl, by omega, rfl, HX, Nat.le_refl _, Qt.refl _⟩
  case round =>
    obtain ⟨k, r, rfl, hk, HC, HR, hcn, HB⟩ := hrel
    cases r with
    | nil =>
      simp only [Pt.len] at hk
      have hge : ¬ (k : Int) < (x.len : Int) := by omega
      have HE : Hid (true = x.called ds) := HC.out
      go_wp2_with fail
      go_ret
      exact ⟨ret_bool HE.out, HB.out⟩
    | cons h kd el r =>
      simp only [Pt.len] at hk
      simp only [Pt.cnt] at hcn
      have hkt : (k : Int) < (x.len : Int) := by omega
      have hk0 : (0 : Int) ≤ (k : Int) := by omega
      obtain ⟨b, o, rfl, hb, hrow⟩ := HR.out (by simp)
      have HRS : Hid (Rest ok (some ⟨b, o, none⟩) w r (k + 1)) := fun _ => ⟨b, o, rfl, hb, by have := hrow.2.2.2; rwa [show o + k * 8 + 8 = o + (k + 1) * 8 by omega] at this⟩
      obtain ⟨⟨g0, -, -, -, -, g5⟩, ⟨ak, ck, g6, k1, k2, k3⟩, ⟨ae, ce, g7, e1, e2, e3⟩, -⟩ := hrow
      have KC : Hid (∀ W, Qt w W → Calls Tryz.prog 33 #[.slice ak kd.len ck, .slice a' ds.length c'] W fun e w' => e = .returned (.bool (kd.called ds)) ∧ ∃ n, w' = W.drewN n) := fun W hW =>
        IH.out kd (by omega) (fun b => ok b ∧ b < w.heap.size) ok' _ _ W (by omega) (Parts.kept ⟨ak, ck, rfl, k1, k2, k3⟩ (fun b hb => hW.block b)) (HDD.out.kept (fun b hb => hW.block b))
      have EC : Hid (∀ W, Qt w W → Calls Tryz.prog 33 #[.slice ae el.len ce, .slice a' ds.length c'] W fun e w' => e = .returned (.bool (el.called ds)) ∧ ∃ n, w' = W.drewN n) := fun W hW =>
        IH.out el (by omega) (fun b => ok b ∧ b < w.heap.size) ok' _ _ W (by omega) (Parts.kept ⟨ae, ce, rfl, e1, e2, e3⟩ (fun b hb => hW.block b)) (HDD.out.kept (fun b hb => hW.block b))
      have HCELL : Hid (∀ W, Qt w W → W.cell? ⟨b, o + k * 8, none⟩ = some (.int .u8 (h.kind : Nat)) ∧ W.cell? ⟨b, o + k * 8 + 5, none⟩ = some (.string h.name) ∧ W.cell? ⟨b, o + k * 8 + 6, none⟩ = some (.slice ak kd.len ck) ∧ W.cell? ⟨b, o + k * 8 + 7, none⟩ = some (.slice ae el.len ce)) := fun W hW =>
        ⟨(hW.cell ⟨b, _, none⟩).trans g0, (hW.cell ⟨b, _, none⟩).trans g5, (hW.cell ⟨b, _, none⟩).trans g6, (hW.cell ⟨b, _, none⟩).trans g7⟩
      have HKI := Lib.hid hk
      have hki : k + 1 + r.len ≤ x.len := by omega
      obtain ⟨T, hT⟩ : ∃ T, (decide (h.kind ≠ 5) || hasDef ds (bl h.name)) = T := ⟨_, rfl⟩
      have HCC : Hid ((T && kd.called ds && el.called ds && r.called ds) = x.called ds) := by unfold Hid; rw [← HC.out, ← hT]; rfl
      have HT0 : Hid ((((h.kind : Int) != 5) || hasDef (ds.drop 0) (bl h.name)) = T) := by
        unfold Hid
        rw [← hT, List.drop_zero]
        congr 1
        rw [Bool.eq_iff_iff]; simp; omega
      clear k3 e3 g0 g5 g6 g7 hk HC hT
      obtain ⟨p0, p5, p6, p7⟩ := HCELL.out _ HB.out
      go_wp2_with fail
      clear p0 p5 p6 p7
      go_loopw [6, 7] (fun v6 v7 wi => ∃ (t : Bool) (j : Nat), v6 = .bool t ∧ v7 = .int .i64 (j : Nat) ∧ j ≤ ds.length ∧ Hid ((t || hasDef (ds.drop j) (bl h.name)) = T) ∧ Hid (Qt w wi)) (fun _ j _ => ds.length - (intOf j).toNat)
      case atStart => exact ⟨_, 0, rfl, rfl, Nat.zero_le _, HT0, HB⟩
      case round =>
        obtain ⟨t, j, rfl, rfl, hj, HI, HBI⟩ := hrel
        obtain ⟨p0, p5, p6, p7⟩ := HCELL.out _ HBI.out
        have hj0 : (0 : Int) ≤ (j : Int) := by omega
        by_cases hjn : j < ds.length
        · have hjn' : (j : Int) < (ds.length : Int) := by omega
          obtain ⟨d, hjd⟩ : ∃ d, ds[j]? = some d := ⟨_, List.getElem?_eq_getElem hjn⟩
          obtain ⟨bd, od, rfl, -, hdr⟩ := HD3.out (by intro e; rw [e] at hjn; simp at hjn)
          have pd : wr.cell? ⟨bd, od + j * 3, none⟩ = some (.string d.name) := (HBI.out.cell ⟨bd, _, none⟩).trans (DRow.at ds bd od j d hjd hdr).1
          have HDC := Lib.hid (drop_cons' ds j d hjd)
          clear hjd hdr hjn
          cases t with
          | true =>
            have HI2 : Hid ((true || hasDef (ds.drop (j + 1)) (bl h.name)) = T) := by unfold Hid; rw [← HI.out]; rfl
            go_wp2_with fail
            go_quiet (fail)
            generalize hWq : World.drewN wr _ = w1
            have HBq : Hid (Qt w w1) := by rw [← hWq]; exact HBI.out.drewN _
            clear hWq
            go_wp2_with fail
            exact ⟨⟨true, j + 1, rfl, by go_num, by omega, HI2, HBq⟩, by simp [intOf]; omega⟩
          | false =>
            obtain ⟨q, hq⟩ : ∃ q, (bl d.name == bl h.name) = q := ⟨_, rfl⟩
            have hq' : (d.name.toList == h.name.toList) = q := by rw [ByteArray.toList_eq, ByteArray.toList_eq]; exact hq
            have HI2 : Hid ((q || hasDef (ds.drop (j + 1)) (bl h.name)) = T) := by unfold Hid; rw [← HI.out, HDC.out, hasDef_cons, hq]; rfl
            clear hq
            go_wp2_with fail
            go_quiet (fail)
            generalize hWq : World.drewN wr _ = w1
            have HBq : Hid (Qt w w1) := by rw [← hWq]; exact HBI.out.drewN _
            clear hWq
            go_wp2_with fail
            exact ⟨⟨q, j + 1, rfl, by go_num, by omega, HI2, HBq⟩, by simp [intOf]; omega⟩
        · have hjn' : ¬ (j : Int) < (ds.length : Int) := by omega
          have hTt : t = T := by have := HI.out; rw [List.drop_of_length_le (by omega)] at this; rw [← this]; simp [hasDef]
          subst hTt
          clear hjn
          cases t with
          | false =>
            have HE : Hid (false = x.called ds) := by unfold Hid; rw [← HCC.out]; rfl
            go_wp2_with fail
            go_ret
            exact ⟨ret_bool HE.out, HBI.out⟩
          | true =>
            have KC1 := Lib.hid (KC.out _ HBI.out)
            cases hkc : kd.called ds with
            | false =>
              have HE : Hid (false = x.called ds) := by unfold Hid; rw [← HCC.out, hkc]; rfl
              rw [hkc] at KC1
              clear hkc
              go_wp2_with fail
              refine KC1.out.mono ?_
              rintro e w3 ⟨rfl, hb3⟩
              have HB3 : Hid (Qt w w3) := HBI.out.trans hb3
              clear hb3 p0 p5 p6 p7
              go_wp2_with fail
              go_ret
              exact ⟨ret_bool HE.out, HB3.out⟩
            | true =>
              rw [hkc] at KC1
              have HCC2 : Hid ((el.called ds && r.called ds) = x.called ds) := by unfold Hid; rw [← HCC.out, hkc]; simp
              clear hkc
              go_wp2_with fail
              refine KC1.out.mono ?_
              rintro e w3 ⟨rfl, hb3⟩
              have HB3 : Hid (Qt w w3) := HBI.out.trans hb3
              clear hb3 p0 p5 p6 p7 KC1
              obtain ⟨p0, p5, p6, p7⟩ := HCELL.out _ HB3.out
              have EC1 := Lib.hid (EC.out _ HB3.out)
              cases hec : el.called ds with
              | false =>
                have HE : Hid (false = x.called ds) := by unfold Hid; rw [← HCC2.out, hec]; rfl
                rw [hec] at EC1
                clear hec
                go_wp2_with fail
                refine EC1.out.mono ?_
                rintro e w4 ⟨rfl, hb4⟩
                have HB4 : Hid (Qt w w4) := HB3.out.trans hb4
                clear hb4 p0 p5 p6 p7
                go_wp2_with fail
                go_ret
                exact ⟨ret_bool HE.out, HB4.out⟩
              | true =>
                have HE : Hid (r.called ds = x.called ds) := by unfold Hid; rw [← HCC2.out, hec]; rfl
                rw [hec] at EC1
                clear hec
                go_wp2_with fail
                refine EC1.out.mono ?_
                rintro e w4 ⟨rfl, hb4⟩
                have HB4 : Hid (Qt w w4) := HB3.out.trans hb4
                clear hb4 p0 p5 p6 p7
                go_wp2_with fail
                exact ⟨⟨k + 1, r, by go_num, by have := HKI.out; omega, HE, HRS, by omega, HB4⟩, by simp [intOf]; omega⟩
theorem cd_all (ds : List Df) (hdl : ds.length ≤ 16777216) (n : Nat) : CdSaid ds n := by
  induction n with
  | zero => intro x h; exact absurd h (Nat.not_lt_zero _)
  | succ n ih => exact cd_step ds hdl n ih
theorem calledR_calls (ds : List Df) (hdl : ds.length ≤ 16777216) (x : Pt) (ok ok' : Nat → Prop) (v v' : Value) (w : World) (hc : x.cnt ≤ 16777216) (hx : Parts ok w v x) (hd : Defs ok' w v' ds) : Calls Tryz.prog 33 #[v, v'] w (CdP ds x w) :=
  cd_all ds hdl (x.cnt + 1) x (Nat.lt_succ_self _) ok ok' v v' w hc hx hd
end Go.Proofs.YtdgcdjpjnhlihaaGreatDoor
