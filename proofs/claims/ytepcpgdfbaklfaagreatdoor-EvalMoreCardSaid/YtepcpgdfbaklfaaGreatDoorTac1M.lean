/-
  The reader's action behind its maps: a text that begins otherwise than a comment. The condition: the source takes less than 2 to the 24th bytes; MaxLen holds some number.
-/
import Derived.Test.YtepcpgdfbaklfaaGreatDoorTac0M
set_option linter.unusedVariables false
namespace Go.Proofs.YtepcpgdfbaklfaaGreatDoor
open Go.RowKit Go.Shelf Go.ChangeMaps Go.MapKept

set_option maxRecDepth 100000 in
set_option maxHeartbeats 10000000 in
theorem act_a (B q bx : Nat) (hq : q ≤ 16777215) (x : ByteArray) (hx : x.size ≤ 16777215) (at_ : Nat) (hat : at_ ≤ 16777216) (s : St) (w : World) (h : RdM B q bx s w) (hsh : Sh w) (hc : comment (bl x) = false) : ∀ u, (actCap B q bx hq x hx at_ hat s w h hsh hc).1 u := by
  unfold actCap
  intro u col bs sv dv cv hg T L WL HWL HA HLL HLEN w2 wa wc w3 w4 K1 hK1 K0 hK0 hl4 hv4 hsh4 HB4 HBw HG4 HS4
  clear h hc hg
  have hLen := HLEN.out
  clear HLEN
  have hws : ∀ LB : List ByteArray, WL.map mkB = LB → Strs (Ok (freshC col w.heap.size) w4) w4 (.slice wa L.length wc) LB := fun LB e => by rw [← e, HLL.out]; exact HS4.out
  cases WL with
  | nil =>
    have HE : Hid (action (bl x) at_ s = .err 190 at_) := HA.out
    have t0 : ((L.length : Int) == 0) = true := by rw [hLen]; rfl
    clear HA HWL HLL hLen HG4 hl4 hv4 HS4
    go_wp2_with fail
    rw [HE.out]
    exact ⟨rfl, HB4.out, rfl⟩
  | cons w0 WR =>
    have t0 : ((L.length : Int) == 0) = false := by rw [beq_eq_false_iff_ne, hLen]; simp only [List.length_cons]; omega
    have l0 : 0 < L.length := by rw [hLen]; simp
    obtain ⟨a, cc, hwa, k1, k2, k3⟩ := HS4.out
    injection hwa with e1 e2 e3
    subst e1; subst e3
    obtain ⟨b, o, rfl, hok, hcs⟩ := k3 (by intro e; rw [e] at l0; simp at l0)
    have hc0 : w4.cell? ⟨b, o, none⟩ = some (.string (mkB w0)) := hcs 0 _ (by rw [← HLL.out]; rfl)
    clear hcs k3 k1 k2 hok
    by_cases hk0 : w0 = kIf
    · subst hk0
      replace hc0 : w4.cell? ⟨b, o, none⟩ = some (.string ⟨#[105, 102]⟩) := hc0
      have hlk : (Instr.lookup 156 (.map (some w2.heap.size)) (.string ⟨#[105, 102]⟩) true).run Tryz.prog w4 = .ok (.tuple #[.func (.func 82) #[.pointer (some ⟨bx, 0, none⟩)] #[], .bool true]) w4 :=
        run_look _ _ _ _ _ _ _ 0 _ true Tryz.underlying156 Tryz.underlying9 hv4 rfl
      have hlg : (Instr.lookup 89 (.map (some w3.heap.size)) (.string ⟨#[105, 102]⟩) false).run Tryz.prog w4 = .ok (.int .i64 2) w4 :=
        run_look _ _ _ _ _ _ _ 0 _ false Tryz.underlying89 Tryz.underlying9 hl4 rfl
      by_cases hn : WR.length = 1
      · have t9 : ((L.length : Int) == 2) = true := by rw [beq_iff_eq, hLen]; simp only [List.length_cons]; omega
        obtain ⟨y, rfl⟩ : ∃ y, WR = [y] := by
          match WR, hn with
          | [y], _ => exact ⟨y, rfl⟩
        have VC : Hid (Calls Tryz.prog 82 #[.pointer (some ⟨bx, 0, none⟩), .slice (some ⟨b, o, none⟩) L.length wc, .int .i64 (at_ : Nat)] w4 (RsPost B (q + 2) bx w4 (action (bl x) at_ s))) := by
          have hy : y.length ≤ 16777216 := by have := HWL.out y (by simp); rw [bl_len] at this; omega
          have := choice_calls B q bx 3 kIf y (by first | exact .inl ⟨rfl, rfl⟩ | exact .inr ⟨rfl, rfl⟩) hy at_ hat s _ bs sv dv cv _ w4 HG4.out hsh4 (hws _ rfl)
          unfold Hid
          rw [HA.out, actW_if]
          refine Calls.mono ?_ fun e w' hp => RsPost.more hp (Nat.le_add_right q 2)
          exact this
        have hl2 : L.length = 2 := by rw [hLen]; rfl
        rw [hl2] at VC ⊢
        clear HA HWL HLL hLen HG4 hl4 hv4 HS4 hn hl2 t9 t0 l0
        go_wp2_with fail
        refine VC.out.mono ?_
        rintro e w5 ⟨hb5, h5⟩
        have HB5 := Lib.hid (HB4.out.trans hb5)
        clear hb5 VC
        cases hR : action (bl x) at_ s with
        | ok s3 =>
          have HRR := Lib.hid hR
          rw [hR] at h5
          obtain ⟨rfl, h6⟩ := h5
          have H6 := Lib.hid h6
          clear h6 hR
          go_wp2_with fail
          first | go_end0 | refine bodyPost_ret (results_none rfl _ _ _) rfl ?_
          rw [HRR.out]
          exact ⟨HB5.out, rfl, H6.out⟩
        | err ee ii =>
          rw [hR] at h5
          have HRR := Lib.hid hR
          have h6 : e = .panicked [{ v := .iface 84 (.agg #[.int .i64 (ee : Nat), .int .i64 (ii : Nat)]), recovered := false }] := h5
          subst h6
          clear h5 hR
          go_wp2_with fail
          try rw [HRR.out]
          exact ⟨rfl, HB5.out, rfl⟩
      have t9 : ((L.length : Int) == 2) = false := by rw [beq_eq_false_iff_ne, hLen]; simp only [List.length_cons]; omega
      have HE : Hid (action (bl x) at_ s = .err 190 at_) := by unfold Hid; rw [HA.out]; exact actW_bad kIf WR 1 at_ s (by decide) hn
      obtain ⟨m, hm⟩ : ∃ m, L.length = m := ⟨_, rfl⟩
      rw [hm] at t0 l0 t9 ⊢
      have hb1 : ∃ v, ((m : Int) == 1) = v := ⟨_, rfl⟩
      obtain ⟨v1, t1⟩ := hb1
      clear hm
      clear HA HWL HLL hLen HG4 hl4 hv4 HS4 hn
      cases v1
      all_goals
        go_wp2_with fail
        rw [HE.out]
        exact ⟨rfl, HB4.out, rfl⟩
    by_cases hk1 : w0 = kRange
    · subst hk1
      replace hc0 : w4.cell? ⟨b, o, none⟩ = some (.string ⟨#[114, 97, 110, 103, 101]⟩) := hc0
      have hlk : (Instr.lookup 156 (.map (some w2.heap.size)) (.string ⟨#[114, 97, 110, 103, 101]⟩) true).run Tryz.prog w4 = .ok (.tuple #[.func (.func 82) #[.pointer (some ⟨bx, 0, none⟩)] #[], .bool true]) w4 :=
        run_look _ _ _ _ _ _ _ 1 _ true Tryz.underlying156 Tryz.underlying9 hv4 rfl
      have hlg : (Instr.lookup 89 (.map (some w3.heap.size)) (.string ⟨#[114, 97, 110, 103, 101]⟩) false).run Tryz.prog w4 = .ok (.int .i64 2) w4 :=
        run_look _ _ _ _ _ _ _ 1 _ false Tryz.underlying89 Tryz.underlying9 hl4 rfl
      by_cases hn : WR.length = 1
      · have t9 : ((L.length : Int) == 2) = true := by rw [beq_iff_eq, hLen]; simp only [List.length_cons]; omega
        obtain ⟨y, rfl⟩ : ∃ y, WR = [y] := by
          match WR, hn with
          | [y], _ => exact ⟨y, rfl⟩
        have VC : Hid (Calls Tryz.prog 82 #[.pointer (some ⟨bx, 0, none⟩), .slice (some ⟨b, o, none⟩) L.length wc, .int .i64 (at_ : Nat)] w4 (RsPost B (q + 2) bx w4 (action (bl x) at_ s))) := by
          have hy : y.length ≤ 16777216 := by have := HWL.out y (by simp); rw [bl_len] at this; omega
          have := choice_calls B q bx 4 kRange y (by first | exact .inl ⟨rfl, rfl⟩ | exact .inr ⟨rfl, rfl⟩) hy at_ hat s _ bs sv dv cv _ w4 HG4.out hsh4 (hws _ rfl)
          unfold Hid
          rw [HA.out, actW_range]
          refine Calls.mono ?_ fun e w' hp => RsPost.more hp (Nat.le_add_right q 2)
          exact this
        have hl2 : L.length = 2 := by rw [hLen]; rfl
        rw [hl2] at VC ⊢
        clear HA HWL HLL hLen HG4 hl4 hv4 HS4 hn hl2 t9 t0 l0
        go_wp2_with fail
        refine VC.out.mono ?_
        rintro e w5 ⟨hb5, h5⟩
        have HB5 := Lib.hid (HB4.out.trans hb5)
        clear hb5 VC
        cases hR : action (bl x) at_ s with
        | ok s3 =>
          have HRR := Lib.hid hR
          rw [hR] at h5
          obtain ⟨rfl, h6⟩ := h5
          have H6 := Lib.hid h6
          clear h6 hR
          go_wp2_with fail
          first | go_end0 | refine bodyPost_ret (results_none rfl _ _ _) rfl ?_
          rw [HRR.out]
          exact ⟨HB5.out, rfl, H6.out⟩
        | err ee ii =>
          rw [hR] at h5
          have HRR := Lib.hid hR
          have h6 : e = .panicked [{ v := .iface 84 (.agg #[.int .i64 (ee : Nat), .int .i64 (ii : Nat)]), recovered := false }] := h5
          subst h6
          clear h5 hR
          go_wp2_with fail
          try rw [HRR.out]
          exact ⟨rfl, HB5.out, rfl⟩
      have t9 : ((L.length : Int) == 2) = false := by rw [beq_eq_false_iff_ne, hLen]; simp only [List.length_cons]; omega
      have HE : Hid (action (bl x) at_ s = .err 190 at_) := by unfold Hid; rw [HA.out]; exact actW_bad kRange WR 1 at_ s (by decide) hn
      obtain ⟨m, hm⟩ : ∃ m, L.length = m := ⟨_, rfl⟩
      rw [hm] at t0 l0 t9 ⊢
      have hb1 : ∃ v, ((m : Int) == 1) = v := ⟨_, rfl⟩
      obtain ⟨v1, t1⟩ := hb1
      clear hm
      clear HA HWL HLL hLen HG4 hl4 hv4 HS4 hn
      cases v1
      all_goals
        go_wp2_with fail
        rw [HE.out]
        exact ⟨rfl, HB4.out, rfl⟩
    by_cases hk2 : w0 = kCall
    · subst hk2
      replace hc0 : w4.cell? ⟨b, o, none⟩ = some (.string ⟨#[99, 97, 108, 108]⟩) := hc0
      have hlk : (Instr.lookup 156 (.map (some w2.heap.size)) (.string ⟨#[99, 97, 108, 108]⟩) true).run Tryz.prog w4 = .ok (.tuple #[.func (.func 83) #[.pointer (some ⟨bx, 0, none⟩)] #[], .bool true]) w4 :=
        run_look _ _ _ _ _ _ _ 2 _ true Tryz.underlying156 Tryz.underlying9 hv4 rfl
      have hlg : (Instr.lookup 89 (.map (some w3.heap.size)) (.string ⟨#[99, 97, 108, 108]⟩) false).run Tryz.prog w4 = .ok (.int .i64 3) w4 :=
        run_look _ _ _ _ _ _ _ 2 _ false Tryz.underlying89 Tryz.underlying9 hl4 rfl
      by_cases hn : WR.length = 2
      · have t9 : ((L.length : Int) == 3) = true := by rw [beq_iff_eq, hLen]; simp only [List.length_cons]; omega
        obtain ⟨y, z, rfl⟩ : ∃ y z, WR = [y, z] := by
          match WR, hn with
          | [y, z], _ => exact ⟨y, z, rfl⟩
        have VC : Hid (Calls Tryz.prog 83 #[.pointer (some ⟨bx, 0, none⟩), .slice (some ⟨b, o, none⟩) L.length wc, .int .i64 (at_ : Nat)] w4 (RsPost B (q + 2) bx w4 (action (bl x) at_ s))) := by
          have hy : y.length ≤ 16777216 := by have := HWL.out y (by simp); rw [bl_len] at this; omega
          have hz : z.length ≤ 16777216 := by have := HWL.out z (by simp); rw [bl_len] at this; omega
          have := call_calls B q bx hq kCall y z hy hz at_ hat s _ bs sv dv cv _ w4 HG4.out hsh4 (hws _ rfl)
          unfold Hid
          rw [HA.out, actW_call]
          exact this
        have hl2 : L.length = 3 := by rw [hLen]; rfl
        rw [hl2] at VC ⊢
        clear HA HWL HLL hLen HG4 hl4 hv4 HS4 hn hl2 t9 t0 l0
        go_wp2_with fail
        refine VC.out.mono ?_
        rintro e w5 ⟨hb5, h5⟩
        have HB5 := Lib.hid (HB4.out.trans hb5)
        clear hb5 VC
        cases hR : action (bl x) at_ s with
        | ok s3 =>
          have HRR := Lib.hid hR
          rw [hR] at h5
          obtain ⟨rfl, h6⟩ := h5
          have H6 := Lib.hid h6
          clear h6 hR
          go_wp2_with fail
          first | go_end0 | refine bodyPost_ret (results_none rfl _ _ _) rfl ?_
          rw [HRR.out]
          exact ⟨HB5.out, rfl, H6.out⟩
        | err ee ii =>
          rw [hR] at h5
          have HRR := Lib.hid hR
          have h6 : e = .panicked [{ v := .iface 84 (.agg #[.int .i64 (ee : Nat), .int .i64 (ii : Nat)]), recovered := false }] := h5
          subst h6
          clear h5 hR
          go_wp2_with fail
          try rw [HRR.out]
          exact ⟨rfl, HB5.out, rfl⟩
      have t9 : ((L.length : Int) == 3) = false := by rw [beq_eq_false_iff_ne, hLen]; simp only [List.length_cons]; omega
      have HE : Hid (action (bl x) at_ s = .err 190 at_) := by unfold Hid; rw [HA.out]; exact actW_bad kCall WR 2 at_ s (by decide) hn
      obtain ⟨m, hm⟩ : ∃ m, L.length = m := ⟨_, rfl⟩
      rw [hm] at t0 l0 t9 ⊢
      have hb1 : ∃ v, ((m : Int) == 1) = v := ⟨_, rfl⟩
      obtain ⟨v1, t1⟩ := hb1
      clear hm
      clear HA HWL HLL hLen HG4 hl4 hv4 HS4 hn
      cases v1
      all_goals
        go_wp2_with fail
        rw [HE.out]
        exact ⟨rfl, HB4.out, rfl⟩
    by_cases hk3 : w0 = kDef
    · subst hk3
      replace hc0 : w4.cell? ⟨b, o, none⟩ = some (.string ⟨#[100, 101, 102, 105, 110, 101]⟩) := hc0
      have hlk : (Instr.lookup 156 (.map (some w2.heap.size)) (.string ⟨#[100, 101, 102, 105, 110, 101]⟩) true).run Tryz.prog w4 = .ok (.tuple #[.func (.func 84) #[.pointer (some ⟨bx, 0, none⟩)] #[], .bool true]) w4 :=
        run_look _ _ _ _ _ _ _ 3 _ true Tryz.underlying156 Tryz.underlying9 hv4 rfl
      have hlg : (Instr.lookup 89 (.map (some w3.heap.size)) (.string ⟨#[100, 101, 102, 105, 110, 101]⟩) false).run Tryz.prog w4 = .ok (.int .i64 2) w4 :=
        run_look _ _ _ _ _ _ _ 3 _ false Tryz.underlying89 Tryz.underlying9 hl4 rfl
      by_cases hn : WR.length = 1
      · have t9 : ((L.length : Int) == 2) = true := by rw [beq_iff_eq, hLen]; simp only [List.length_cons]; omega
        obtain ⟨y, rfl⟩ : ∃ y, WR = [y] := by
          match WR, hn with
          | [y], _ => exact ⟨y, rfl⟩
        have VC : Hid (Calls Tryz.prog 84 #[.pointer (some ⟨bx, 0, none⟩), .slice (some ⟨b, o, none⟩) L.length wc, .int .i64 (at_ : Nat)] w4 (RsPost B (q + 2) bx w4 (action (bl x) at_ s))) := by
          have hy : y.length ≤ 16777216 := by have := HWL.out y (by simp); rw [bl_len] at this; omega
          have := define_calls B q bx (by omega) kDef y hy at_ hat s _ bs sv dv cv _ w4 HG4.out (hws _ rfl)
          unfold Hid
          rw [HA.out, actW_def]
          refine Calls.mono ?_ fun e w' hp => RsPost.more hp (Nat.le_add_right q 2)
          exact this
        have hl2 : L.length = 2 := by rw [hLen]; rfl
        rw [hl2] at VC ⊢
        clear HA HWL HLL hLen HG4 hl4 hv4 HS4 hn hl2 t9 t0 l0
        go_wp2_with fail
        refine VC.out.mono ?_
        rintro e w5 ⟨hb5, h5⟩
        have HB5 := Lib.hid (HB4.out.trans hb5)
        clear hb5 VC
        cases hR : action (bl x) at_ s with
        | ok s3 =>
          have HRR := Lib.hid hR
          rw [hR] at h5
          obtain ⟨rfl, h6⟩ := h5
          have H6 := Lib.hid h6
          clear h6 hR
          go_wp2_with fail
          first | go_end0 | refine bodyPost_ret (results_none rfl _ _ _) rfl ?_
          rw [HRR.out]
          exact ⟨HB5.out, rfl, H6.out⟩
        | err ee ii =>
          rw [hR] at h5
          have HRR := Lib.hid hR
          have h6 : e = .panicked [{ v := .iface 84 (.agg #[.int .i64 (ee : Nat), .int .i64 (ii : Nat)]), recovered := false }] := h5
          subst h6
          clear h5 hR
          go_wp2_with fail
          try rw [HRR.out]
          exact ⟨rfl, HB5.out, rfl⟩
      have t9 : ((L.length : Int) == 2) = false := by rw [beq_eq_false_iff_ne, hLen]; simp only [List.length_cons]; omega
      have HE : Hid (action (bl x) at_ s = .err 190 at_) := by unfold Hid; rw [HA.out]; exact actW_bad kDef WR 1 at_ s (by decide) hn
      obtain ⟨m, hm⟩ : ∃ m, L.length = m := ⟨_, rfl⟩
      rw [hm] at t0 l0 t9 ⊢
      have hb1 : ∃ v, ((m : Int) == 1) = v := ⟨_, rfl⟩
      obtain ⟨v1, t1⟩ := hb1
      clear hm
      clear HA HWL HLL hLen HG4 hl4 hv4 HS4 hn
      cases v1
      all_goals
        go_wp2_with fail
        rw [HE.out]
        exact ⟨rfl, HB4.out, rfl⟩
    by_cases hk4 : w0 = kElse
    · subst hk4
      replace hc0 : w4.cell? ⟨b, o, none⟩ = some (.string ⟨#[101, 108, 115, 101]⟩) := hc0
      have hlk : (Instr.lookup 156 (.map (some w2.heap.size)) (.string ⟨#[101, 108, 115, 101]⟩) true).run Tryz.prog w4 = .ok (.tuple #[.func (.func 85) #[.pointer (some ⟨bx, 0, none⟩)] #[], .bool true]) w4 :=
        run_look _ _ _ _ _ _ _ 4 _ true Tryz.underlying156 Tryz.underlying9 hv4 rfl
      have hlg : (Instr.lookup 89 (.map (some w3.heap.size)) (.string ⟨#[101, 108, 115, 101]⟩) false).run Tryz.prog w4 = .ok (.int .i64 1) w4 :=
        run_look _ _ _ _ _ _ _ 4 _ false Tryz.underlying89 Tryz.underlying9 hl4 rfl
      by_cases hn : WR.length = 0
      · have t9 : ((L.length : Int) == 1) = true := by rw [beq_iff_eq, hLen]; simp only [List.length_cons]; omega
        obtain rfl : WR = [] := List.length_eq_zero_iff.1 hn
        have VC : Hid (Calls Tryz.prog 85 #[.pointer (some ⟨bx, 0, none⟩), .slice (some ⟨b, o, none⟩) L.length wc, .int .i64 (at_ : Nat)] w4 (RsPost B (q + 2) bx w4 (action (bl x) at_ s))) := by
          have := other_calls B q bx at_  hat s (.slice (some ⟨b, o, none⟩) L.length wc) w4 ⟨_, _, _, _, _, HG4.out⟩
          unfold Hid
          rw [HA.out, actW_else]
          refine Calls.mono ?_ fun e w' hp => RsPost.more (q := q) hp (by omega)
          exact this
        have hl2 : L.length = 1 := by rw [hLen]; rfl
        rw [hl2] at VC ⊢
        clear HA HWL HLL hLen HG4 hl4 hv4 HS4 hn hl2 t9 t0 l0
        go_wp2_with fail
        refine VC.out.mono ?_
        rintro e w5 ⟨hb5, h5⟩
        have HB5 := Lib.hid (HB4.out.trans hb5)
        clear hb5 VC
        cases hR : action (bl x) at_ s with
        | ok s3 =>
          have HRR := Lib.hid hR
          rw [hR] at h5
          obtain ⟨rfl, h6⟩ := h5
          have H6 := Lib.hid h6
          clear h6 hR
          go_wp2_with fail
          first | go_end0 | refine bodyPost_ret (results_none rfl _ _ _) rfl ?_
          rw [HRR.out]
          exact ⟨HB5.out, rfl, H6.out⟩
        | err ee ii =>
          rw [hR] at h5
          have HRR := Lib.hid hR
          have h6 : e = .panicked [{ v := .iface 84 (.agg #[.int .i64 (ee : Nat), .int .i64 (ii : Nat)]), recovered := false }] := h5
          subst h6
          clear h5 hR
          go_wp2_with fail
          try rw [HRR.out]
          exact ⟨rfl, HB5.out, rfl⟩
      have t9 : ((L.length : Int) == 1) = false := by rw [beq_eq_false_iff_ne, hLen]; simp only [List.length_cons]; omega
      have HE : Hid (action (bl x) at_ s = .err 190 at_) := by unfold Hid; rw [HA.out]; exact actW_bad kElse WR 0 at_ s (by decide) hn
      obtain ⟨m, hm⟩ : ∃ m, L.length = m := ⟨_, rfl⟩
      rw [hm] at t0 l0 t9 ⊢
      clear hm
      clear HA HWL HLL hLen HG4 hl4 hv4 HS4 hn
      go_wp2_with fail
      rw [HE.out]
      exact ⟨rfl, HB4.out, rfl⟩
    by_cases hk5 : w0 = kEnd
    · subst hk5
      replace hc0 : w4.cell? ⟨b, o, none⟩ = some (.string ⟨#[101, 110, 100]⟩) := hc0
      have hlk : (Instr.lookup 156 (.map (some w2.heap.size)) (.string ⟨#[101, 110, 100]⟩) true).run Tryz.prog w4 = .ok (.tuple #[.func (.func 86) #[.pointer (some ⟨bx, 0, none⟩)] #[], .bool true]) w4 :=
        run_look _ _ _ _ _ _ _ 5 _ true Tryz.underlying156 Tryz.underlying9 hv4 rfl
      have hlg : (Instr.lookup 89 (.map (some w3.heap.size)) (.string ⟨#[101, 110, 100]⟩) false).run Tryz.prog w4 = .ok (.int .i64 1) w4 :=
        run_look _ _ _ _ _ _ _ 5 _ false Tryz.underlying89 Tryz.underlying9 hl4 rfl
      by_cases hn : WR.length = 0
      · have t9 : ((L.length : Int) == 1) = true := by rw [beq_iff_eq, hLen]; simp only [List.length_cons]; omega
        obtain rfl : WR = [] := List.length_eq_zero_iff.1 hn
        have VC : Hid (Calls Tryz.prog 86 #[.pointer (some ⟨bx, 0, none⟩), .slice (some ⟨b, o, none⟩) L.length wc, .int .i64 (at_ : Nat)] w4 (RsPost B (q + 2) bx w4 (action (bl x) at_ s))) := by
          have := end_calls B q bx at_ (by omega) hat s (.slice (some ⟨b, o, none⟩) L.length wc) w4 ⟨_, _, _, _, _, HG4.out⟩
          unfold Hid
          rw [HA.out, actW_end]
          refine Calls.mono ?_ fun e w' hp => RsPost.more (q := q + 1) hp (by omega)
          exact this
        have hl2 : L.length = 1 := by rw [hLen]; rfl
        rw [hl2] at VC ⊢
        clear HA HWL HLL hLen HG4 hl4 hv4 HS4 hn hl2 t9 t0 l0
        go_wp2_with fail
        refine VC.out.mono ?_
        rintro e w5 ⟨hb5, h5⟩
        have HB5 := Lib.hid (HB4.out.trans hb5)
        clear hb5 VC
        cases hR : action (bl x) at_ s with
        | ok s3 =>
          have HRR := Lib.hid hR
          rw [hR] at h5
          obtain ⟨rfl, h6⟩ := h5
          have H6 := Lib.hid h6
          clear h6 hR
          go_wp2_with fail
          first | go_end0 | refine bodyPost_ret (results_none rfl _ _ _) rfl ?_
          rw [HRR.out]
          exact ⟨HB5.out, rfl, H6.out⟩
        | err ee ii =>
          rw [hR] at h5
          have HRR := Lib.hid hR
          have h6 : e = .panicked [{ v := .iface 84 (.agg #[.int .i64 (ee : Nat), .int .i64 (ii : Nat)]), recovered := false }] := h5
          subst h6
          clear h5 hR
          go_wp2_with fail
          try rw [HRR.out]
          exact ⟨rfl, HB5.out, rfl⟩
      have t9 : ((L.length : Int) == 1) = false := by rw [beq_eq_false_iff_ne, hLen]; simp only [List.length_cons]; omega
      have HE : Hid (action (bl x) at_ s = .err 190 at_) := by unfold Hid; rw [HA.out]; exact actW_bad kEnd WR 0 at_ s (by decide) hn
      obtain ⟨m, hm⟩ : ∃ m, L.length = m := ⟨_, rfl⟩
      rw [hm] at t0 l0 t9 ⊢
      clear hm
      clear HA HWL HLL hLen HG4 hl4 hv4 HS4 hn
      go_wp2_with fail
      rw [HE.out]
      exact ⟨rfl, HB4.out, rfl⟩
    have hnk : kws.contains w0 = false := by
      rw [Bool.eq_false_iff]
      intro e
      rw [List.contains_eq_mem] at e
      simp only [kws, List.mem_cons, List.not_mem_nil, or_false, decide_eq_true_eq] at e
      rcases e with e | e | e | e | e | e
      · exact hk0 e
      · exact hk4 e
      · exact hk5 e
      · exact hk1 e
      · exact hk2 e
      · exact hk3 e
    clear hk0 hk1 hk2 hk3 hk4 hk5
    have hlk : (Instr.lookup 156 (.map (some w2.heap.size)) (.string (mkB w0)) true).run Tryz.prog w4 = .ok (.tuple #[.nilFunc, .bool false]) w4 :=
      run_look_none _ _ 155 _ _ _ _ _ true Tryz.underlying156 Tryz.underlying9 hv4 (vrbs_none bx (mkB w0) hnk) (by kernel_rfl)
    obtain ⟨X, hX⟩ : ∃ X, mkB w0 = X := ⟨_, rfl⟩
    rw [hX] at hlk hc0
    by_cases hr : WR = []
    · subst hr
      have t1 : ((L.length : Int) == 1) = true := by rw [beq_iff_eq, hLen]; rfl
      have hA2 := HA.out
      rw [actW_one w0 at_ s hnk] at hA2
      have hw0 : w0.length ≤ 16777216 := by have := HWL.out w0 (by simp); rw [bl_len] at this; omega
      have MU := Lib.hid (must_calls (mkB w0) (by rw [mkB_size]; exact hw0) at_ hat w4 hsh4)
      rw [bl_mk, hX] at MU
      cases hw : wayB w0 with
      | none =>
        rw [hw] at MU hA2
        have HE := Lib.hid hA2
        clear hw hA2 HA HWL HLL hLen HG4 hl4 hv4 HS4 hX
        go_wp2_with fail
        refine MU.out.mono ?_
        rintro e w5 ⟨hb5, rfl⟩
        have HB5 := Lib.hid (HB4.out.trans (hb5.mono (by have := HB4.out.size; have := HBw.out; omega)))
        clear hb5
        go_wp2_with fail
        rw [HE.out]
        exact ⟨rfl, HB5.out, rfl⟩
      | some p =>
        rw [hw] at MU hA2
        have HE := Lib.hid hA2
        clear hw hA2 HA HWL HLL hLen hl4 hv4 HS4 hX
        go_wp2_with fail
        refine MU.out.mono ?_
        rintro e w5 ⟨hb5, v, rfl, hst⟩
        obtain ⟨N, hN⟩ : ∃ N, p.2.map mkB = N := ⟨_, rfl⟩
        rw [hN] at hst
        have ⟨va, vc, hv, _⟩ := hst
        subst hv
        have hn5 : Strs (Ok (freshC (freshC col w.heap.size) w4.heap.size) w5) w5 (.slice va N.length vc) N := hst.mono (fun b hb => fresh_ok hb)
        have hg5 := HG4.out.same (same_fresh (B := B) hb5) (fun _ => trivial) (Nat.le_refl q)
        have HB5 := Lib.hid (HB4.out.trans (hb5.mono (by have := HB4.out.size; have := HBw.out; omega)))
        have AD : Hid (Calls Tryz.prog 46 #[.pointer (some ⟨bx, 0, none⟩), .agg #[.int .u8 2, .int .i64 (at_ : Nat), .string ⟨#[]⟩, .bool p.1, .slice va N.length vc, .string ⟨#[]⟩, .slice none 0 0, .slice none 0 0]] w5 (RsPost B (q + 1) bx w5 (action (bl x) at_ s))) := by
          have := add_calls B q bx (by omega) s (hdHole at_ p.1 p.2) at_ hat rfl _ _ _ _ _ (.slice va N.length vc) w5 hg5 (by show Strs _ _ _ (p.2.map mkB); rw [hN]; exact hn5)
          unfold Hid
          rw [HE.out]
          exact this
        have VC := Lib.hid (Calls.mono AD.out fun e w' hp => RsPost.more hp (Nat.le_succ (q + 1)))
        clear hb5 hst hn5 hg5 HG4 AD
        replace HB4 := HB5
        go_wp2_with fail
        refine VC.out.mono ?_
        rintro e w5 ⟨hb5, h5⟩
        have HB5 := Lib.hid (HB4.out.trans hb5)
        clear hb5 VC
        cases hR : action (bl x) at_ s with
        | ok s3 =>
          have HRR := Lib.hid hR
          rw [hR] at h5
          obtain ⟨rfl, h6⟩ := h5
          have H6 := Lib.hid h6
          clear h6 hR
          go_wp2_with fail
          first | go_end0 | refine bodyPost_ret (results_none rfl _ _ _) rfl ?_
          rw [HRR.out]
          exact ⟨HB5.out, rfl, H6.out⟩
        | err ee ii =>
          rw [hR] at h5
          have HRR := Lib.hid hR
          have h6 : e = .panicked [{ v := .iface 84 (.agg #[.int .i64 (ee : Nat), .int .i64 (ii : Nat)]), recovered := false }] := h5
          subst h6
          clear h5 hR
          go_wp2_with fail
          try rw [HRR.out]
          exact ⟨rfl, HB5.out, rfl⟩
    · have HE : Hid (action (bl x) at_ s = .err 190 at_) := by unfold Hid; rw [HA.out]; exact actW_no w0 WR at_ s hnk hr
      have t1 : ((L.length : Int) == 1) = false := by
        rw [beq_eq_false_iff_ne, hLen]
        have := List.length_pos_iff.2 hr
        simp only [List.length_cons]; omega
      clear HA HWL HLL hLen HG4 hl4 hv4 HS4 hX hr
      go_wp2_with fail
      rw [HE.out]
      exact ⟨rfl, HB4.out, rfl⟩
end Go.Proofs.YtepcpgdfbaklfaaGreatDoor
