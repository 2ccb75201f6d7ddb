/- The reader's action behind its maps: a text that begins as a comment. The condition: the source takes less than 2 to the 24th bytes; MaxLen holds some number. -/
import Derived.Test.YtepcpgdfbaklfaaGreatDoorMcTac0
import Derived.Test.YtepcpgdfbaklfaaGreatDoorMcTrc
set_option linter.unusedVariables false
namespace Go.Proofs.YtepcpgdfbaklfaaGreatDoor
open Go.RowKit Go.Shelf Go.ChangeMaps Go.MapKept
set_option maxRecDepth 100000 in
set_option maxHeartbeats 10000000 in
theorem act_b (B q bx : Nat) (hq : q ≤ 16777215) (x : ByteArray) (hx : x.size ≤ 16777215) (at_ : Nat) (hat : at_ ≤ 16777216) (s : St) (w : World) (h : RdM B q bx s w) (hsh : Sh w) (hc : comment (bl x) = false) : ∀ u, (actCap B q bx hq x hx at_ hat s w h hsh hc).2.1 u := by
 unfold actCap
 intro u col bs sv dv cv hg T L WL HWL HA HLL HLEN w2 wa wc w3 w4 K1 hK1 K0 hK0 hl4 hv4 hsh4 HB4 HBw HG4 HS4
 clear h hc hg
 have hLen := HLEN.out
 clear HLEN
 have hws : ∀ LB : List ByteArray, WL.map mkB = LB → Strs (Ok (freshC col w.heap.size) w4) w4 (.slice wa L.length wc) LB := fun LB e => by rw [← e, HLL.out]; exact HS4.out
 cases WL with
 | nil =>
   have HE : Hid (action (bl x) at_ s = .err 190 at_) := HA.out
   have t0 : ((L.length : Int) == 0) = true := by rw [hLen]; rfl
   clear HA HWL HLL hLen HG4 hl4 hv4 HS4
   go_wp2_with fail
   rw [HE.out]
   exact ⟨rfl, HB4.out, rfl⟩
 | cons w0 WR =>
   have t0 : ((L.length : Int) == 0) = false := by rw [beq_eq_false_iff_ne, hLen]; simp only [List.length_cons]; omega
   have l0 : 0 < L.length := by rw [hLen]; simp
   obtain ⟨a, cc, hwa, k1, k2, k3⟩ := HS4.out
   injection hwa with e1 e2 e3
   subst e1; subst e3
   obtain ⟨b, o, rfl, hok, hcs⟩ := k3 (by intro e; rw [e] at l0; simp at l0)
   have hc0 : w4.cell? ⟨b, o, none⟩ = some (.string (mkB w0)) := hcs 0 _ (by rw [← HLL.out]; rfl)
   clear hcs k3 k1 k2 hok
   by_cases hk0 : w0 = kIf
   · subst hk0
     replace hc0 : w4.cell? ⟨b, o, none⟩ = some (.string ⟨#[105, 102]⟩) := hc0
     have hlk : (Instr.lookup 156 (.map (some w2.heap.size)) (.string ⟨#[105, 102]⟩) true).run Tryz.prog w4 = .ok (.tuple #[.func (.func 82) #[.pointer (some ⟨bx, 0, none⟩)] #[], .bool true]) w4 :=
      run_look _ _ _ _ _ _ _ 0 _ true Tryz.underlying156 Tryz.underlying9 hv4 rfl
     have hlg : (Instr.lookup 89 (.map (some w3.heap.size)) (.string ⟨#[105, 102]⟩) false).run Tryz.prog w4 = .ok (.int .i64 2) w4 :=
      run_look _ _ _ _ _ _ _ 0 _ false Tryz.underlying89 Tryz.underlying9 hl4 rfl
     by_cases hn : WR.length = 1
     · have t9 : ((L.length : Int) == 2) = true := by rw [beq_iff_eq, hLen]; simp only [List.length_cons]; omega
       obtain ⟨y, rfl⟩ : ∃ y, WR = [y] := by
        match WR, hn with
        | [y], _ => exact ⟨y, rfl⟩
       have VC : Hid (Calls Tryz.prog 82 #[.pointer (some ⟨bx, 0, none⟩), .slice (some ⟨b, o, none⟩) L.length wc, .int .i64 (at_ : Nat)] w4 (RsPost B (q + 2) bx w4 (action (bl x) at_ s))) := by
        have hy : y.length ≤ 16777216 := by have := HWL.out y (by simp); rw [bl_len] at this; omega
        have := choice_calls B q bx 3 kIf y (by first | exact .inl ⟨rfl, rfl⟩ | exact .inr ⟨rfl, rfl⟩) hy at_ hat s _ bs sv dv cv _ w4 HG4.out hsh4 (hws _ rfl)
        unfold Hid
        rw [HA.out, actW_if]
        refine Calls.mono ?_ fun e w' hp => RsPost.more hp (Nat.le_add_right q 2)
        exact this
       have hl2 : L.length = 2 := by rw [hLen]; rfl
       rw [hl2] at VC ⊢
       clear HA HWL HLL hLen HG4 hl4 hv4 HS4 hn hl2 t9 t0 l0
       go_wp2_with fail
       refine VC.out.mono ?_
       rintro e w5 ⟨hb5, h5⟩
       have HB5 := Lib.hid (HB4.out.trans hb5)
       clear hb5 VC
       cases hR : action (bl x) at_ s with
       | ok s3 =>
         have HRR := Lib.hid hR
         rw [hR] at h5
         obtain ⟨rfl, h6⟩ := h5
         have H6 := Lib.hid h6
         clear h6 hR
         go_wp2_with fail
         first | go_end0 | refine bodyPost_ret (results_none rfl _ _ _) rfl ?_
         rw [HRR.out]
         exact ⟨HB5.out, rfl, H6.out⟩
       | err ee ii =>
         rw [hR] at h5
         have HRR := Lib.hid hR
         have h6 : e = .panicked [{ v := .iface 84 (.agg #[.int .i64 (ee : Nat), .int .i64 (ii : Nat)]), recovered := false }] := h5
         subst h6
         clear h5 hR
         go_wp2_with fail
         try rw [HRR.out]
         exact ⟨rfl, HB5.out, rfl⟩
     have t9 : ((L.length : Int) == 2) = false := by rw [beq_eq_false_iff_ne, hLen]; simp only [List.length_cons]; omega
     have HE : Hid (action (bl x) at_ s = .err 190 at_) := by unfold Hid; rw [HA.out]; exact actW_bad kIf WR 1 at_ s (by decide) hn
     obtain ⟨m, hm⟩ : ∃ m, L.length = m := ⟨_, rfl⟩
     rw [hm] at t0 l0 t9 ⊢
     have hb1 : ∃ v, ((m : Int) == 1) = v := ⟨_, rfl⟩
     obtain ⟨v1, t1⟩ := hb1
     clear hm
     clear HA HWL HLL hLen HG4 hl4 hv4 HS4 hn
     cases v1
     all_goals
      go_wp2_with fail
      rw [HE.out]
      exact ⟨rfl, HB4.out, rfl⟩
   by_cases hk1 : w0 = kRange
   · subst hk1
     replace hc0 : w4.cell? ⟨b, o, none⟩ = some (.string ⟨#[114, 97, 110, 103, 101]⟩) := hc0
     have hlk : (Instr.lookup 156 (.map (some w2.heap.size)) (.string ⟨#[114, 97, 110, 103, 101]⟩) true).run Tryz.prog w4 = .ok (.tuple #[.func (.func 82) #[.pointer (some ⟨bx, 0, none⟩)] #[], .bool true]) w4 :=
      run_look _ _ _ _ _ _ _ 1 _ true Tryz.underlying156 Tryz.underlying9 hv4 rfl
     have hlg : (Instr.lookup 89 (.map (some w3.heap.size)) (.string ⟨#[114, 97, 110, 103, 101]⟩) false).run Tryz.prog w4 = .ok (.int .i64 2) w4 :=
      run_look _ _ _ _ _ _ _ 1 _ false Tryz.underlying89 Tryz.underlying9 hl4 rfl
     by_cases hn : WR.length = 1
     · have t9 : ((L.length : Int) == 2) = true := by rw [beq_iff_eq, hLen]; simp only [List.length_cons]; omega
       obtain ⟨y, rfl⟩ : ∃ y, WR = [y] := by
        match WR, hn with
        | [y], _ => exact ⟨y, rfl⟩
       have VC : Hid (Calls Tryz.prog 82 #[.pointer (some ⟨bx, 0, none⟩), .slice (some ⟨b, o, none⟩) L.length wc, .int .i64 (at_ : Nat)] w4 (RsPost B (q + 2) bx w4 (action (bl x) at_ s))) := by
        have hy : y.length ≤ 16777216 := by have := HWL.out y (by simp); rw [bl_len] at this; omega
        have := choice_calls B q bx 4 kRange y (by first | exact .inl ⟨rfl, rfl⟩ | exact .inr ⟨rfl, rfl⟩) hy at_ hat s _ bs sv dv cv _ w4 HG4.out hsh4 (hws _ rfl)
        unfold Hid
        rw [HA.out, actW_range]
        refine Calls.mono ?_ fun e w' hp => RsPost.more hp (Nat.le_add_right q 2)
        exact this
       have hl2 : L.length = 2 := by rw [hLen]; rfl
       rw [hl2] at VC ⊢
       clear HA HWL HLL hLen HG4 hl4 hv4 HS4 hn hl2 t9 t0 l0
       go_wp2_with fail
       refine VC.out.mono ?_
       rintro e w5 ⟨hb5, h5⟩
       have HB5 := Lib.hid (HB4.out.trans hb5)
       clear hb5 VC
       cases hR : action (bl x) at_ s with
       | ok s3 =>
         have HRR := Lib.hid hR
         rw [hR] at h5
         obtain ⟨rfl, h6⟩ := h5
         have H6 := Lib.hid h6
         clear h6 hR
         go_wp2_with fail
         first | go_end0 | refine bodyPost_ret (results_none rfl _ _ _) rfl ?_
         rw [HRR.out]
         exact ⟨HB5.out, rfl, H6.out⟩
       | err ee ii =>
         rw [hR] at h5
         have HRR := Lib.hid hR
         have h6 : e = .panicked [{ v := .iface 84 (.agg #[.int .i64 (ee : Nat), .int .i64 (ii : Nat)]), recovered := false }] := h5
         subst h6
         clear h5 hR
         go_wp2_with fail
         try rw [HRR.out]
         exact ⟨rfl, HB5.out, rfl⟩
     have t9 : ((L.length : Int) == 2) = false := by rw [beq_eq_false_iff_ne, hLen]; simp only [List.length_cons]; omega
     have HE : Hid (action (bl x) at_ s = .err 190 at_) := by unfold Hid; rw [HA.out]; exact actW_bad kRange WR 1 at_ s (by decide) hn
     obtain ⟨m, hm⟩ : ∃ m, L.length = m := ⟨_, rfl⟩
     rw [hm] at t0 l0 t9 ⊢
     have hb1 : ∃ v, ((m : Int) == 1) = v := ⟨_, rfl⟩
     obtain ⟨v1, t1⟩ := hb1
     clear hm
     clear HA HWL HLL hLen HG4 hl4 hv4 HS4 hn
     cases v1
     all_goals
      go_wp2_with fail
      rw [HE.out]
      exact ⟨rfl, HB4.out, rfl⟩
   by_cases hk2 : w0 = kCall
   · subst hk2
     replace hc0 : w4.cell? ⟨b, o, none⟩ = some (.string ⟨#[99, 97, 108, 108]⟩) := hc0
     have hlk : (Instr.lookup 156 (.map (some w2.heap.size)) (.string ⟨#[99, 97, 108, 108]⟩) true).run Tryz.prog w4 = .ok (.tuple #[.func (.func 83) #[.pointer (some ⟨bx, 0, none⟩)] #[], .bool true]) w4 :=
      run_look _ _ _ _ _ _ _ 2 _ true Tryz.underlying156 Tryz.underlying9 hv4 rfl
     have hlg : (Instr.lookup 89 (.map (some w3.heap.size)) (.string ⟨#[99, 97, 108, 108]⟩) false).run Tryz.prog w4 = .ok (.int .i64 3) w4 :=
      run_look _ _ _ _ _ _ _ 2 _ false Tryz.underlying89 Tryz.underlying9 hl4 rfl
     by_cases hn : WR.length = 2
     · have t9 : ((L.length : Int) == 3) = true := by rw [beq_iff_eq, hLen]; simp only [List.length_cons]; omega
       obtain ⟨y, z, rfl⟩ : ∃ y z, WR = [y, z] := by
        match WR, hn with
        | [y, z], _ => exact ⟨y, z, rfl⟩
       have VC : Hid (Calls Tryz.prog 83 #[.pointer (some ⟨bx, 0, none⟩), .slice (some ⟨b, o, none⟩) L.length wc, .int .i64 (at_ : Nat)] w4 (RsPost B (q + 2) bx w4 (action (bl x) at_ s))) := by
        have hy : y.length ≤ 16777216 := by have := HWL.out y (by simp); rw [bl_len] at this; omega
        have hz : z.length ≤ 16777216 := by have := HWL.out z (by simp); rw [bl_len] at this; omega
        have := call_calls B q bx hq kCall y z hy hz at_ hat s _ bs sv dv cv _ w4 HG4.out hsh4 (hws _ rfl)
        unfold Hid
        rw [HA.out, actW_call]
        exact this
       have hl2 : L.length = 3 := by rw [hLen]; rfl
       rw [hl2] at VC ⊢
       clear HA HWL HLL hLen HG4 hl4 hv4 HS4 hn hl2 t9 t0 l0
       go_wp2_with fail
       refine VC.out.mono ?_
       rintro e w5 ⟨hb5, h5⟩
       have HB5 := Lib.hid (HB4.out.trans hb5)
       clear hb5 VC
       cases hR : action (bl x) at_ s with
       | ok s3 =>
         have HRR := Lib.hid hR
         rw [hR] at h5
         obtain ⟨rfl, h6⟩ := h5
         have H6 := Lib.hid h6
         clear h6 hR
         go_wp2_with fail
         first | go_end0 | refine bodyPost_ret (results_none rfl _ _ _) rfl ?_
         rw [HRR.out]
         exact ⟨HB5.out, rfl, H6.out⟩
       | err ee ii =>
         rw [hR] at h5
         have HRR := Lib.hid hR
         have h6 : e = .panicked [{ v := .iface 84 (.agg #[.int .i64 (ee : Nat), .int .i64 (ii : Nat)]), recovered := false }] := h5
         subst h6
         clear h5 hR
         go_wp2_with fail
         try rw [HRR.out]
         exact ⟨rfl, HB5.out, rfl⟩
     have t9 : ((L.length : Int) == 3) = false := by rw [beq_eq_false_iff_ne, hLen]; simp only [List.length_cons]; omega
     have HE : Hid (action (bl x) at_ s = .err 190 at_) := by unfold Hid; rw [HA.out]; exact actW_bad kCall WR 2 at_ s (by decide) hn
     obtain ⟨m, hm⟩ : ∃ m, L.length = m := ⟨_, rfl⟩
     rw [hm] at t0 l0 t9 ⊢
     have hb1 : ∃ v, ((m : Int) == 1) = v := ⟨_, rfl⟩
     obtain ⟨v1, t1⟩ := hb1
     clear hm
     clear HA HWL HLL hLen HG4 hl4 hv4 HS4 hn
     cases v1
     all_goals
      go_wp2_with fail
      rw [HE.out]
      exact ⟨rfl, HB4.out, rfl⟩
   by_cases hk3 : w0 = kDef
   · subst hk3
     replace hc0 : w4.cell? ⟨b, o, none⟩ = some (.string ⟨#[100, 101, 102, 105, 110, 101]⟩) := hc0
     have hlk : (Instr.lookup 156 (.map (some w2.heap.size)) (.string ⟨#[100, 101, 102, 105, 110, 101]⟩) true).run Tryz.prog w4 = .ok (.tuple #[.func (.func 84) #[.pointer (some ⟨bx, 0, none⟩)] #[], .bool true]) w4 :=
      run_look _ _ _ _ _ _ _ 3 _ true Tryz.underlying156 Tryz.underlying9 hv4 rfl
     have hlg : (Instr.lookup 89 (.map (some w3.heap.size)) (.string ⟨#[100, 101, 102, 105, 110, 101]⟩) false).run Tryz.prog w4 = .ok (.int .i64 2) w4 :=
      run_look _ _ _ _ _ _ _ 3 _ false Tryz.underlying89 Tryz.underlying9 hl4 rfl
     by_cases hn : WR.length = 1
     · have t9 : ((L.length : Int) == 2) = true := by rw [beq_iff_eq, hLen]; simp only [List.length_cons]; omega
       obtain ⟨y, rfl⟩ : ∃ y, WR = [y] := by
        match WR, hn with
        | [y], _ => exact ⟨y, rfl⟩
       have VC : Hid (Calls Tryz.prog 84 #[.pointer (some ⟨bx, 0, none⟩), .slice (some ⟨b, o, none⟩) L.length wc, .int .i64 (at_ : Nat)] w4 (RsPost B (q + 2) bx w4 (action (bl x) at_ s))) := by
        have hy : y.length ≤ 16777216 := by have := HWL.out y (by simp); rw [bl_len] at this; omega
        have := define_calls B q bx (by omega) kDef y hy at_ hat s _ bs sv dv cv _ w4 HG4.out (hws _ rfl)
        unfold Hid
        rw [HA.out, actW_def]
        refine Calls.mono ?_ fun e w' hp => RsPost.more hp (Nat.le_add_right q 2)
        exact this
       have hl2 : L.length = 2 := by rw [hLen]; rfl
       rw [hl2] at VC ⊢
       clear HA HWL HLL hLen HG4 hl4 hv4 HS4 hn hl2 t9 t0 l0
       go_wp2_with fail
       refine VC.out.mono ?_
       rintro e w5 ⟨hb5, h5⟩
       have HB5 := Lib.hid (HB4.out.trans hb5)
       clear hb5 VC
       cases hR : action (bl x) at_ s with
       | ok s3 =>
         have HRR := Lib.hid hR
         rw [hR] at h5
         obtain ⟨rfl, h6⟩ := h5
         have H6 := Lib.hid h6
         clear h6 hR
         go_wp2_with fail
         first | go_end0 | refine bodyPost_ret (results_none rfl _ _ _) rfl ?_
         rw [HRR.out]
         exact ⟨HB5.out, rfl, H6.out⟩
       | err ee ii =>
         rw [hR] at h5
         have HRR := Lib.hid hR
         have h6 : e = .panicked [{ v := .iface 84 (.agg #[.int .i64 (ee : Nat), .int .i64 (ii : Nat)]), recovered := false }] := h5
         subst h6
         clear h5 hR
         go_wp2_with fail
         try rw [HRR.out]
         exact ⟨rfl, HB5.out, rfl⟩
     have t9 : ((L.length : Int) == 2) = false := by rw [beq_eq_false_iff_ne, hLen]; simp only [List.length_cons]; omega
     have HE : Hid (action (bl x) at_ s = .err 190 at_) := by unfold Hid; rw [HA.out]; exact actW_bad kDef WR 1 at_ s (by decide) hn
     obtain ⟨m, hm⟩ : ∃ m, L.length = m := ⟨_, rfl⟩
     rw [hm] at t0 l0 t9 ⊢
     have hb1 : ∃ v, ((m : Int) == 1) = v := ⟨_, rfl⟩
     obtain ⟨v1, t1⟩ := hb1
     clear hm
     clear HA HWL HLL hLen HG4 hl4 hv4 HS4 hn
     cases v1
     all_goals
      go_wp2_with fail
      rw [HE.out]
      exact ⟨rfl, HB4.out, rfl⟩
   by_cases hk4 : w0 = kElse
   · subst hk4
     replace hc0 : w4.cell? ⟨b, o, none⟩ = some (.string ⟨#[101, 108, 115, 101]⟩) := hc0
     have hlk : (Instr.lookup 156 (.map (some w2.heap.size)) (.string ⟨#[101, 108, 115, 101]⟩) true).run Tryz.prog w4 = .ok (.tuple #[.func (.func 85) #[.pointer (some ⟨bx, 0, none⟩)] #[], .bool true]) w4 :=
      run_look _ _ _ _ _ _ _ 4 _ true Tryz.underlying156 Tryz.underlying9 hv4 rfl
     have hlg : (Instr.lookup 89 (.map (some w3.heap.size)) (.string ⟨#[101, 108, 115, 101]⟩) false).run Tryz.prog w4 = .ok (.int .i64 1) w4 :=
      run_look _ _ _ _ _ _ _ 4 _ false Tryz.underlying89 Tryz.underlying9 hl4 rfl
     by_cases hn : WR.length = 0
     · have t9 : ((L.length : Int) == 1) = true := by rw [beq_iff_eq, hLen]; simp only [List.length_cons]; omega
       obtain rfl : WR = [] := List.length_eq_zero_iff.1 hn
       have VC : Hid (Calls Tryz.prog 85 #[.pointer (some ⟨bx, 0, none⟩), .slice (some ⟨b, o, none⟩) L.length wc, .int .i64 (at_ : Nat)] w4 (RsPost B (q + 2) bx w4 (action (bl x) at_ s))) := by
        have := other_calls B q bx at_  hat s (.slice (some ⟨b, o, none⟩) L.length wc) w4 ⟨_, _, _, _, _, HG4.out⟩
        unfold Hid
        rw [HA.out, actW_else]
        refine Calls.mono ?_ fun e w' hp => RsPost.more (q := q) hp (by omega)
        exact this
       have hl2 : L.length = 1 := by rw [hLen]; rfl
       rw [hl2] at VC ⊢
       clear HA HWL HLL hLen HG4 hl4 hv4 HS4 hn hl2 t9 t0 l0
       go_wp2_with fail
       refine VC.out.mono ?_
       rintro e w5 ⟨hb5, h5⟩
       have HB5 := Lib.hid (HB4.out.trans hb5)
       clear hb5 VC
       cases hR : action (bl x) at_ s with
       | ok s3 =>
         have HRR := Lib.hid hR
         rw [hR] at h5
         obtain ⟨rfl, h6⟩ := h5
         have H6 := Lib.hid h6
         clear h6 hR
         go_wp2_with fail
         first | go_end0 | refine bodyPost_ret (results_none rfl _ _ _) rfl ?_
         rw [HRR.out]
         exact ⟨HB5.out, rfl, H6.out⟩
       | err ee ii =>
         rw [hR] at h5
         have HRR := Lib.hid hR
         have h6 : e = .panicked [{ v := .iface 84 (.agg #[.int .i64 (ee : Nat), .int .i64 (ii : Nat)]), recovered := false }] := h5
         subst h6
         clear h5 hR
         go_wp2_with fail
         try rw [HRR.out]
         exact ⟨rfl, HB5.out, rfl⟩
     have t9 : ((L.length : Int) == 1) = false := by rw [beq_eq_false_iff_ne, hLen]; simp only [List.length_cons]; omega
     have HE : Hid (action (bl x) at_ s = .err 190 at_) := by unfold Hid; rw [HA.out]; exact actW_bad kElse WR 0 at_ s (by decide) hn
     obtain ⟨m, hm⟩ : ∃ m, L.length = m := ⟨_, rfl⟩
     rw [hm] at t0 l0 t9 ⊢
     clear hm
     clear HA HWL HLL hLen HG4 hl4 hv4 HS4 hn
     go_wp2_with fail
     rw [HE.out]
     exact ⟨rfl, HB4.out, rfl⟩
   by_cases hk5 : w0 = kEnd
   · subst hk5
     replace hc0 : w4.cell? ⟨b, o, none⟩ = some (.string ⟨#[101, 110, 100]⟩) := hc0
     have hlk : (Instr.lookup 156 (.map (some w2.heap.size)) (.string ⟨#[101, 110, 100]⟩) true).run Tryz.prog w4 = .ok (.tuple #[.func (.func 86) #[.pointer (some ⟨bx, 0, none⟩)] #[], .bool true]) w4 :=
      run_look _ _ _ _ _ _ _ 5 _ true Tryz.underlying156 Tryz.underlying9 hv4 rfl
     have hlg : (Instr.lookup 89 (.map (some w3.heap.size)) (.string ⟨#[101, 110, 100]⟩) false).run Tryz.prog w4 = .ok (.int .i64 1) w4 :=
      run_look _ _ _ _ _ _ _ 5 _ false Tryz.underlying89 Tryz.underlying9 hl4 rfl
     by_cases hn : WR.length = 0
     · have t9 : ((L.length : Int) == 1) = true := by rw [beq_iff_eq, hLen]; simp only [List.length_cons]; omega
       obtain rfl : WR = [] := List.length_eq_zero_iff.1 hn
       have VC : Hid (Calls Tryz.prog 86 #[.pointer (some ⟨bx, 0, none⟩), .slice (some ⟨b, o, none⟩) L.length wc, .int .i64 (at_ : Nat)] w4 (RsPost B (q + 2) bx w4 (action (bl x) at_ s))) := by
        have := end_calls B q bx at_ (by omega) hat s (.slice (some ⟨b, o, none⟩) L.length wc) w4 ⟨_, _, _, _, _, HG4.out⟩
        unfold Hid
        rw [HA.out, actW_end]
        refine Calls.mono ?_ fun e w' hp => RsPost.more (q := q + 1) hp (by omega)
        exact this
       have hl2 : L.length = 1 := by rw [hLen]; rfl
       rw [hl2] at VC ⊢
       clear HA HWL HLL hLen HG4 hl4 hv4 HS4 hn hl2 t9 t0 l0
       go_wp2_with fail
       refine VC.out.mono ?_
       rintro e w5 ⟨hb5, h5⟩
       have HB5 := Lib.hid (HB4.out.trans hb5)
       clear hb5 VC
       cases hR : action (bl x) at_ s with
       | ok s3 =>
         have HRR := Lib.hid hR
         rw [hR] at h5
         obtain ⟨rfl, h6⟩ := h5
         have H6 := Lib.hid h6
         clear h6 hR
         go_wp2_with fail
         first | go_end0 | refine bodyPost_ret (results_none rfl _ _ _) rfl ?_
         rw [HRR.out]
         exact ⟨HB5.out, rfl, H6.out⟩
       | err ee ii =>
         rw [hR] at h5
         have HRR := Lib.hid hR
         have h6 : e = .panicked [{ v := .iface 84 (.agg #[.int .i64 (ee : Nat), .int .i64 (ii : Nat)]), recovered := false }] := h5
         subst h6
         clear h5 hR
         go_wp2_with fail
         try rw [HRR.out]
         exact ⟨rfl, HB5.out, rfl⟩
     have t9 : ((L.length : Int) == 1) = false := by rw [beq_eq_false_iff_ne, hLen]; simp only [List.length_cons]; omega
     have HE : Hid (action (bl x) at_ s = .err 190 at_) := by unfold Hid; rw [HA.out]; exact actW_bad kEnd WR 0 at_ s (by decide) hn
     obtain ⟨m, hm⟩ : ∃ m, L.length = m := ⟨_, rfl⟩
     rw [hm] at t0 l0 t9 ⊢
     clear hm
     clear HA HWL HLL hLen HG4 hl4 hv4 HS4 hn
     go_wp2_with fail
     rw [HE.out]
     exact ⟨rfl, HB4.out, rfl⟩
   have hnk : kws.contains w0 = false := by
    rw [Bool.eq_false_iff]
    intro e
    rw [List.contains_eq_mem] at e
    simp only [kws, List.mem_cons, List.not_mem_nil, or_false, decide_eq_true_eq] at e
    rcases e with e | e | e | e | e | e
    · exact hk0 e
    · exact hk4 e
    · exact hk5 e
    · exact hk1 e
    · exact hk2 e
    · exact hk3 e
   clear hk0 hk1 hk2 hk3 hk4 hk5
   have hlk : (Instr.lookup 156 (.map (some w2.heap.size)) (.string (mkB w0)) true).run Tryz.prog w4 = .ok (.tuple #[.nilFunc, .bool false]) w4 :=
    run_look_none _ _ 155 _ _ _ _ _ true Tryz.underlying156 Tryz.underlying9 hv4 (vrbs_none bx (mkB w0) hnk) (by kernel_rfl)
   obtain ⟨X, hX⟩ : ∃ X, mkB w0 = X := ⟨_, rfl⟩
   rw [hX] at hlk hc0
   by_cases hr : WR = []
   · subst hr
     have t1 : ((L.length : Int) == 1) = true := by rw [beq_iff_eq, hLen]; rfl
     have hA2 := HA.out
     rw [actW_one w0 at_ s hnk] at hA2
     have hw0 : w0.length ≤ 16777216 := by have := HWL.out w0 (by simp); rw [bl_len] at this; omega
     have MU := Lib.hid (must_calls (mkB w0) (by rw [mkB_size]; exact hw0) at_ hat w4 hsh4)
     rw [bl_mk, hX] at MU
     cases hw : wayB w0 with
     | none =>
       rw [hw] at MU hA2
       have HE := Lib.hid hA2
       clear hw hA2 HA HWL HLL hLen HG4 hl4 hv4 HS4 hX
       go_wp2_with fail
       refine MU.out.mono ?_
       rintro e w5 ⟨hb5, rfl⟩
       have HB5 := Lib.hid (HB4.out.trans (hb5.mono (by have := HB4.out.size; have := HBw.out; omega)))
       clear hb5
       go_wp2_with fail
       rw [HE.out]
       exact ⟨rfl, HB5.out, rfl⟩
     | some p =>
       rw [hw] at MU hA2
       have HE := Lib.hid hA2
       clear hw hA2 HA HWL HLL hLen hl4 hv4 HS4 hX
       go_wp2_with fail
       refine MU.out.mono ?_
       rintro e w5 ⟨hb5, v, rfl, hst⟩
       obtain ⟨N, hN⟩ : ∃ N, p.2.map mkB = N := ⟨_, rfl⟩
       rw [hN] at hst
       have ⟨va, vc, hv, _⟩ := hst
       subst hv
       have hn5 : Strs (Ok (freshC (freshC col w.heap.size) w4.heap.size) w5) w5 (.slice va N.length vc) N := hst.mono (fun b hb => fresh_ok hb)
       have hg5 := HG4.out.same (same_fresh (B := B) hb5) (fun _ => trivial) (Nat.le_refl q)
       have HB5 := Lib.hid (HB4.out.trans (hb5.mono (by have := HB4.out.size; have := HBw.out; omega)))
       have AD : Hid (Calls Tryz.prog 46 #[.pointer (some ⟨bx, 0, none⟩), .agg #[.int .u8 2, .int .i64 (at_ : Nat), .string ⟨#[]⟩, .bool p.1, .slice va N.length vc, .string ⟨#[]⟩, .slice none 0 0, .slice none 0 0]] w5 (RsPost B (q + 1) bx w5 (action (bl x) at_ s))) := by
        have := add_calls B q bx (by omega) s (hdHole at_ p.1 p.2) at_ hat rfl _ _ _ _ _ (.slice va N.length vc) w5 hg5 (by show Strs _ _ _ (p.2.map mkB); rw [hN]; exact hn5)
        unfold Hid
        rw [HE.out]
        exact this
       have VC := Lib.hid (Calls.mono AD.out fun e w' hp => RsPost.more hp (Nat.le_succ (q + 1)))
       clear hb5 hst hn5 hg5 HG4 AD
       replace HB4 := HB5
       go_wp2_with fail
       refine VC.out.mono ?_
       rintro e w5 ⟨hb5, h5⟩
       have HB5 := Lib.hid (HB4.out.trans hb5)
       clear hb5 VC
       cases hR : action (bl x) at_ s with
       | ok s3 =>
         have HRR := Lib.hid hR
         rw [hR] at h5
         obtain ⟨rfl, h6⟩ := h5
         have H6 := Lib.hid h6
         clear h6 hR
         go_wp2_with fail
         first | go_end0 | refine bodyPost_ret (results_none rfl _ _ _) rfl ?_
         rw [HRR.out]
         exact ⟨HB5.out, rfl, H6.out⟩
       | err ee ii =>
         rw [hR] at h5
         have HRR := Lib.hid hR
         have h6 : e = .panicked [{ v := .iface 84 (.agg #[.int .i64 (ee : Nat), .int .i64 (ii : Nat)]), recovered := false }] := h5
         subst h6
         clear h5 hR
         go_wp2_with fail
         try rw [HRR.out]
         exact ⟨rfl, HB5.out, rfl⟩
   · have HE : Hid (action (bl x) at_ s = .err 190 at_) := by unfold Hid; rw [HA.out]; exact actW_no w0 WR at_ s hnk hr
     have t1 : ((L.length : Int) == 1) = false := by
      rw [beq_eq_false_iff_ne, hLen]
      have := List.length_pos_iff.2 hr
      simp only [List.length_cons]; omega
     clear HA HWL HLL hLen HG4 hl4 hv4 HS4 hX hr
     go_wp2_with fail
     rw [HE.out]
     exact ⟨rfl, HB4.out, rfl⟩
open Go.RowKit Go.Shelf
theorem action_calls (B q bx : Nat) (hq : q ≤ 16777215) (x : ByteArray) (hx : x.size ≤ 16777215) (at_ : Nat) (hat : at_ ≤ 16777216) (s : St) (w : World) (h : RdM B q bx s w) (hsh : Sh w) :
 Calls Tryz.prog 47 #[.pointer (some ⟨bx, 0, none⟩), .string x, .int .i64 (at_ : Nat)] w (RsPost B (q + 2) bx w (action (bl x) at_ s)) := by
 cases hc : comment (bl x) with
 | false => exact (actCap B q bx hq x hx at_ hat s w h hsh hc).2.2 (act_a B q bx hq x hx at_ hat s w h hsh hc) (act_b B q bx hq x hx at_ hat s w h hsh hc)
 | true =>
   have HE : Hid (action (bl x) at_ s = .ok s) := by unfold Hid action; rw [if_pos hc]
   rw [comment_eq, Bool.and_eq_true] at hc
   obtain ⟨h1, h2⟩ := hc
   have CP := Tryz.strings_CutPrefix x ⟨#[47, 42]⟩
   obtain ⟨T, hT⟩ : ∃ T : ByteArray, (⟨(Lib.trimPrefix x.data.toList [47, 42]).toArray⟩ : ByteArray) = T := ⟨_, rfl⟩
   have hp : Lib.hasPrefix x.data.toList [47, 42] = true := h1
   rw [show (⟨#[47, 42]⟩ : ByteArray).data.toList = [47, 42] from rfl, hT, hp] at CP
   have hTs : T.size ≤ x.size := by
    have e : T.size = (Lib.trimPrefix x.data.toList [47, 42]).length := by rw [← hT]; exact mkB_size _
    rw [e]
    have e2 : x.data.toList.length = x.size := bl_len x
    unfold Lib.trimPrefix
    rw [if_pos hp, List.length_drop]; omega
   have hs2 : Lib.hasSuffix T.data.toList [42, 47] = true := by rw [← hT]; exact h2
   have HSH := Lib.hid (fun w => Tryz.strings_HasSuffix T ⟨#[42, 47]⟩ w (by omega))
   rw [show (⟨#[42, 47]⟩ : ByteArray).data.toList = [42, 47] from rfl, hs2] at HSH
   have HR := Lib.hid (h.mono (Nat.le_add_right q 2))
   clear h1 h2 hp hT hTs hs2 h
   go_enter Tryz.func47, Tryz.ntmps47
   go_wp2_with fail
   refine (CP _).mono ?_
   rintro e w' ⟨rfl, hw⟩
   replace hw := hw.symm
   subst hw
   go_wp2_with fail
   refine (HSH.out _).mono ?_
   rintro e w' ⟨rfl, hw⟩
   replace hw := hw.symm
   subst hw
   go_wp2_with fail
   first | go_end0 | refine bodyPost_ret (results_none rfl _ _ _) rfl ?_
   rw [HE.out]
   exact ⟨Below.refl _ _, rfl, HR.out⟩
theorem readF_step (n : Nat) (x : By) (at_ : Nat) (s : St) (hx : x ≠ []) (hn : x.length ≤ n) : readF n x at_ s = match cut2 123 x with
 | none => s.add (hdText at_ x) at_
 | some (a, r) => (if a = [] then .ok s else s.add (hdText at_ a) at_).bind fun s => match cut2 125 r with
   | none => .err 191 (at_ + a.length)
   | some (i, r2) => (action i (at_ + a.length) s).bind fun s => readF n r2 (at_ + a.length + i.length + 4) s := by
 have h1 : readF n x at_ s = readF (n + 1) x at_ s := readF_fuel _ _ _ _ _ hn (by omega)
 rw [h1, readF, if_neg hx]
 cases cut2 123 x with
 | none => rfl
 | some q =>
   obtain ⟨a, r⟩ := q
   dsimp only
   rfl
theorem cutN_calls (c : UInt8) (s : ByteArray) (hs : s.size ≤ 16777216) (w : World) (hsh : Sh w) (h : cut2 c (bl s) = none) :
 Calls Tryz.prog 45 #[.string s, .string ⟨#[c, c]⟩] w fun e w' => e = .returned (.tuple #[.string s, .string ⟨#[]⟩, .bool false]) ∧ Sl w w' := by
 obtain ⟨m, hm⟩ := hsh
 refine (Tryz.strings_Cut s ⟨#[c, c]⟩ m w (by omega) hm).mono ?_
 rintro e w' ⟨rfl, n, rfl⟩
 refine ⟨?_, Sl.drewN w n⟩
 rw [show (⟨#[c, c]⟩ : ByteArray).data.toList = [c, c] from rfl]
 have : Lib.cut s.data.toList [c, c] = (bl s, [], false) := cut_none2 c (bl s) h
 rw [this]
 show Ending.returned (.tuple #[.string (mkB (bl s)), _, _]) = _
 rw [mkB_bl]
theorem cutS_calls (c : UInt8) (s : ByteArray) (hs : s.size ≤ 16777216) (a r : By) (w : World) (hsh : Sh w) (h : cut2 c (bl s) = some (a, r)) :
 Calls Tryz.prog 45 #[.string s, .string ⟨#[c, c]⟩] w fun e w' => e = .returned (.tuple #[.string (mkB a), .string (mkB r), .bool true]) ∧ Sl w w' := by
 obtain ⟨m, hm⟩ := hsh
 refine (Tryz.strings_Cut s ⟨#[c, c]⟩ m w (by omega) hm).mono ?_
 rintro e w' ⟨rfl, n, rfl⟩
 refine ⟨?_, Sl.drewN w n⟩
 rw [show (⟨#[c, c]⟩ : ByteArray).data.toList = [c, c] from rfl]
 have : Lib.cut s.data.toList [c, c] = (a, r, true) := cut_some2 c (bl s) a r h
 rw [this]
 rfl
def ValidR (w : World) (r : Option Nat) (e : Ending) (w' : World) : Prop := Below w.heap.size w w' ∧ match r with
 | none => e = .returned (.tuple #[])
 | some i => e = .panicked [{ v := .iface 84 (.agg #[.int .i64 197, .int .i64 (i : Nat)]), recovered := false }]
def failV (bf : Nat) : Value := .iface 93 (.pointer (some ⟨bf, 0, none⟩))
def failO (n p : Nat) : Obj := .cells #[.string ⟨#[80, 97, 114, 115, 101]⟩, .int .i64 (p : Nat), .iface 37 (.int .i64 (n : Nat))] 95 (0, 0)
def ParseR (w : World) (r : Rs Tm) (e : Ending) (w' : World) : Prop := Below w.heap.size w w' ∧ match r with
 | .ok t => ∃ vm vd, e = .returned (.tuple #[.agg #[vm, vd], .nilIface]) ∧ Parts (fun b => w.heap.size ≤ b ∧ b < w'.heap.size) w' vm t.main ∧ Defs (fun b => w.heap.size ≤ b ∧ b < w'.heap.size) w' vd t.defs
 | .err n p => ∃ bf, e = .returned (.tuple #[.agg #[.slice none 0 0, .slice none 0 0], failV bf]) ∧ w.heap.size ≤ bf ∧ w'.heap[bf]? = some (failO n p)
def ParseU (w : World) (r : Rs Tm) (e : Ending) (w' : World) : Prop := Below w.heap.size w w' ∧ match r with
 | .ok t => ∃ vm vd, e = .returned (.tuple #[.agg #[vm, vd], .nilIface]) ∧ Parts (fun b => w.heap.size ≤ b ∧ b < w'.heap.size ∧ UnF w' b) w' vm t.main ∧ Defs (fun b => w.heap.size ≤ b ∧ b < w'.heap.size) w' vd t.defs
 | .err n p => ∃ bf, e = .returned (.tuple #[.agg #[.slice none 0 0, .slice none 0 0], failV bf]) ∧ w.heap.size ≤ bf ∧ w'.heap[bf]? = some (failO n p)
theorem ParseU.weak {w : World} {r : Rs Tm} {e : Ending} {w' : World} (h : ParseU w r e w') : ParseR w r e w' := by
 obtain ⟨h1, h2⟩ := h
 refine ⟨h1, ?_⟩
 cases r with
 | ok t =>
   obtain ⟨vm, vd, he, hm, hd⟩ := h2
   exact ⟨vm, vd, he, hm.mono (fun b hb => ⟨hb.1, hb.2.1⟩), hd⟩
 | err n p => exact h2
theorem results_parse {w : World} {tmps : Array Value} {bt be : Nat} {x y z : Value} (h2 : tmps.getD 2 undef = .pointer (some ⟨bt, 0, none⟩)) (h3 : tmps.getD 3 undef = .pointer (some ⟨be, 0, none⟩))
 (ht : w.heap[bt]? = some (.cells #[x, y] 25 (0, 0))) (he : w.heap[be]? = some (.cells #[z] 64 (0, 0))) :
 (results Tryz.f26 tmps).run Tryz.prog w = .ok (.tuple #[.agg #[x, y], z]) w := by
 have c := fun j => cell_of_heap' ht j
 have d := fun j => cell_of_heap' he j
 have c0 : w.cell? ⟨bt, 0, none⟩ = some x := c 0
 have c1 : w.cell? ⟨bt, 1, none⟩ = some y := c 1
 have d0 : w.cell? ⟨be, 0, none⟩ = some z := d 0
 have h2' : tmps[2]?.getD undef = .pointer (some ⟨bt, 0, none⟩) := by rw [← h2]; simp
 have h3' : tmps[3]?.getD undef = .pointer (some ⟨be, 0, none⟩) := by rw [← h3]; simp
 clear c d ht he
 simp [results, Tryz.results26, h2', h3', go_sem, c0, c1, d0]
def closeD (bt be : Nat) : List Deferred := [{ target := .fn (.func 43) #[.pointer (some ⟨bt, 0, none⟩), .pointer (some ⟨be, 0, none⟩)], args := #[] }]
theorem parse_panic {R : Ending → World → Prop} {a : Act} {W : World} {bt be : Nat} {vm vd ve : Value} (n p : Nat) (hd : a.defers = closeD bt be) (h2 : a.tmps.getD 2 undef = .pointer (some ⟨bt, 0, none⟩)) (h3 : a.tmps.getD 3 undef = .pointer (some ⟨be, 0, none⟩))
 (hne : bt ≠ be) (ht : W.heap[bt]? = some (.cells #[vm, vd] 25 (0, 0))) (he : W.heap[be]? = some (.cells #[ve] 64 (0, 0)))
 (hR : ∀ bf w', W.heap.size ≤ bf → w'.heap[bf]? = some (failO n p) → w'.os = W.os → w'.tape = W.tape → w'.output = W.output → W.heap.size ≤ w'.heap.size → (∀ b, b < W.heap.size → b ≠ bt → b ≠ be → w'.heap[b]? = W.heap[b]?) →
   R (.returned (.tuple #[.agg #[.slice none 0 0, .slice none 0 0], failV bf])) w') :
 bodyPostD Tryz.prog Tryz.f26 R (.panic [{ v := .iface 84 (.agg #[.int .i64 (n : Nat), .int .i64 (p : Nat)]), recovered := false }]) a W := by
 show Leaves _ _ _ _ a.defers _ _
 rw [hd]
 refine leaves_cons (f := 43) (args := #[.pointer (some ⟨bt, 0, none⟩), .pointer (some ⟨be, 0, none⟩)]) (by simp) (by simp [go_sem]) ?_
 refine (parseF_catch bt be hne vm vd ve n p W ht he).mono ?_
 rintro e u' w'' ⟨rfl, rfl, ⟨c1, ⟨bf, c2, c3, c4⟩, c5, c6, c7, c8, c9⟩⟩
 exact ⟨_, results_parse h2 h3 c1 c3, hR bf w'' c2 c4 c5 c6 c7 c8 c9⟩
theorem parse_return {R : Ending → World → Prop} {a : Act} {W : World} {bt be : Nat} {vm vd ve : Value} (hd : a.defers = closeD bt be) (h2 : a.tmps.getD 2 undef = .pointer (some ⟨bt, 0, none⟩)) (h3 : a.tmps.getD 3 undef = .pointer (some ⟨be, 0, none⟩))
 (ht : W.heap[bt]? = some (.cells #[vm, vd] 25 (0, 0))) (he : W.heap[be]? = some (.cells #[ve] 64 (0, 0)))
 (hR : R (.returned (.tuple #[.agg #[vm, vd], ve])) W) :
 bodyPostD Tryz.prog Tryz.f26 R .ret a W := by
 show Leaves _ _ _ _ a.defers _ _
 rw [hd]
 refine leaves_cons (f := 43) (args := #[.pointer (some ⟨bt, 0, none⟩), .pointer (some ⟨be, 0, none⟩)]) (by simp) (by simp [go_sem]) ?_
 refine (parseF_idle ⟨bt, 0, none⟩ ⟨be, 0, none⟩ W).mono ?_
 rintro e u' w'' ⟨rfl, rfl, rfl⟩
 exact ⟨_, results_parse h2 h3 ht he, hR⟩
def col0 (n : Nat) (b : Nat) : Nat := if b < n then 1 else if b = n then 5 else if b = n + 1 then 2 else if b = n + 2 then 1 else 0
theorem RdG.start (w : World) : RdG w.heap.size 0 (w.heap.size + 2) St.start (col0 w.heap.size) [w.heap.size] (.slice (some ⟨w.heap.size + 1, 0, none⟩) 1 1) (.slice none 0 0) (.slice none 0 0)
 (((w.alloc (.cells (frCells Fr.main (.slice none 0 0) (.slice none 0 0) (.slice none 0 0)) 100 (0, 0))).alloc (.cells #[.pointer (some ⟨w.heap.size, 0, none⟩)] 98 (0, 0))).alloc
   (.cells (rdCells (.slice (some ⟨w.heap.size + 1, 0, none⟩) 1 1) (.slice none 0 0) 0 (.slice none 0 0)) 103 (0, 0))) := by
 generalize hx : Obj.cells (frCells Fr.main (.slice none 0 0) (.slice none 0 0) (.slice none 0 0)) 100 (0, 0) = X
 generalize hy : Obj.cells #[.pointer (some ⟨w.heap.size, 0, none⟩)] 98 (0, 0) = Y
 generalize hz : Obj.cells (rdCells (.slice (some ⟨w.heap.size + 1, 0, none⟩) 1 1) (.slice none 0 0) 0 (.slice none 0 0)) 103 (0, 0) = Z
 have s1 : (w.alloc X).heap.size = w.heap.size + 1 := by simp
 have s2 : ((w.alloc X).alloc Y).heap.size = w.heap.size + 2 := by simp
 have b3 : (((w.alloc X).alloc Y).alloc Z).heap[w.heap.size + 2]? = some Z := by have := heap_alloc_new ((w.alloc X).alloc Y) Z; rwa [s2] at this
 have b2 : (((w.alloc X).alloc Y).alloc Z).heap[w.heap.size + 1]? = some Y := by
  rw [Below.heap_alloc _ _ _ (by omega)]
  have := heap_alloc_new (w.alloc X) Y; rwa [s1] at this
 have b1 : (((w.alloc X).alloc Y).alloc Z).heap[w.heap.size]? = some X := by
  rw [Below.heap_alloc _ _ _ (by omega), Below.heap_alloc _ _ _ (by omega)]
  exact heap_alloc_new w X
 have e1 : col0 w.heap.size w.heap.size = 5 := by unfold col0; rw [if_neg (by omega), if_pos rfl]
 have e2 : col0 w.heap.size (w.heap.size + 1) = 2 := by unfold col0; rw [if_neg (by omega), if_neg (by omega), if_pos rfl]
 have e3 : col0 w.heap.size (w.heap.size + 2) = 1 := by unfold col0; rw [if_neg (by omega), if_neg (by omega), if_neg (by omega), if_pos rfl]
 exact {
  bb := by omega
  cx := e3
  hx := by rw [b3, ← hz]; rfl
  st := ⟨⟨rfl, .inr ⟨w.heap.size + 1, 1, _, rfl, by omega, b2.trans (by rw [← hy]), Nat.le_refl _, by decide, rfl, rfl⟩⟩, fun g hg => by
   have : w.heap.size + 1 = g := by simpa [Value.ownBlock] using hg
   rw [← this]; exact e2⟩
  fr := ⟨w.heap.size, [], rfl, ⟨Nat.le_refl _, e1, Nat.le_refl _, _, _, _, b1.trans (by rw [← hx]; rfl), Strs.nil _ _, Parts.nil _ _, Kids.nil _ _ _ _⟩, rfl⟩
  df := ⟨[], ⟨World.ownsRow_nil _ _ _ _, fun g h => by cases h⟩, rfl⟩
  cl := ⟨[], ⟨World.ownsRow_nil _ _ _ _, fun g h => by cases h⟩, rfl⟩
  l1 := by decide
  l2 := by decide
  l3 := Nat.le_refl _
  l4 := Nat.le_refl _
  hB := by simp; omega
  ol := fun b hb => if_pos hb }
end Go.Proofs.YtepcpgdfbaklfaaGreatDoor
