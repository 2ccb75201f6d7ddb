/- A value that came in: what its weight says of its sizes. No condition. -/
import Derived.Test.YtepcpgdfbaklfaaGreatDoorMcF1
import Derived.Test.YtepcpgdfbaklfaaGreatDoorMcF0
import Derived.Test.YtepcpgdfbaklfaaGreatDoorG5C
set_option linter.unusedSimpArgs false
set_option linter.unusedVariables false
namespace Go.Proofs.YtepcpgdfbaklfaaGreatDoor
open Go.RowKit Go.Shelf Ev
theorem cnt_le_wg : ∀ t : Vl, cntX t ≤ wgX t := by
 intro t
 induction t with
 | nil => exact Nat.le_refl _
 | cons h k r ihk ihr => simp only [cntX, wgX]; omega
theorem sm_wf_h {h : Vh} (hs : h.sm) : h.wf := by
 obtain ⟨s1, s2, s3, s4, s5, s6, s7⟩ := hs
 exact ⟨s1, s2, s3, s4, by omega, by omega, fun n hn => Nat.le_trans (s7 n hn) (by decide)⟩
theorem sm_wfX : ∀ t : Vl, smX t → cntX t ≤ 16777216 → wfX t := by
 intro t
 induction t with
 | nil => intro _ _; exact trivial
 | cons h k r ihk ihr =>
   rintro ⟨h1, h2, h3⟩ hc
   simp only [cntX] at hc
   have hl := len_le_cntX k
   exact ⟨sm_wf_h h1, ihk h2 (by omega), ihr h3 (by omega), by omega⟩
theorem Va.sm_wf {x : Va} (h : Va.sm x) : Va.wf x := ⟨sm_wf_h h.1, sm_wfX _ h.2.1 h.2.2, by have := len_le_cntX x.items; have := h.2.2; omega⟩
theorem Va.wf_sm {x : Va} (h : Va.wf x) (hw : wvF 2048 x ≤ 2048) : Va.sm x := by
 have h1 := wvF_eq x 2048 hw
 have h2 : wgX (.cons x.h x.items .nil) ≤ 2048 := by rw [← h1]; exact hw
 have h3 := sm_of_weight 2048 (by decide) (.cons x.h x.items .nil) ⟨h.1, h.2.1, trivial, h.2.2⟩ h2
 have h4 := cnt_le_wg (.cons x.h x.items .nil)
 simp only [cntX] at h4
 exact ⟨h3.1, h3.2.1, by omega⟩
end Go.Proofs.YtepcpgdfbaklfaaGreatDoor
