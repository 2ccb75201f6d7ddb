/-
  lacunaref19's action up to its cases (captured). The condition: the words take at most 2 to the 24th bytes; no list is longer than 2 to the 24th.
-/
/-
  lacunaref19's action: words that are none of its own. The condition: no list is longer than 2 to the 24th.
-/
/-
  lacunaref19's action: end. The condition: no list is longer than 2 to the 24th.
-/
/-
  lacunaref19's action: one word, a hole. The condition: no list is longer than 2 to the 24th.
-/
/-
  lacunaref19's action: if and range. The condition: no list is longer than 2 to the 24th.
-/
import Derived.Test.YtdgcdjpjnhlihaaGreatDoorMgTu7
import Derived.Test.YtdgcdjpjnhlihaaGreatDoorMgTu1
import Derived.Test.YtdgcdjpjnhlihaaGreatDoorTac0M
import Derived.Test.YtdgcdjpjnhlihaaGreatDoorMgTq1
import Derived.Deep.DeepCutAuto
set_option linter.unusedVariables false
set_option linter.unusedSimpArgs false
namespace Go.Proofs.YtdgcdjpjnhlihaaGreatDoor
open Go.RowKit Go.Shelf

theorem RlP.more {B q q' bx : Nat} {src : ByteArray} {r : Rs St} {w : World} {e : Ending} {w' : World} (hq : q ≤ q') (h : RlP B q bx src r w e w') : RlP B q' bx src r w e w' := by
  obtain ⟨h1, h2, s, E, h3, h4⟩ := h
  exact ⟨h1, h2, s, E, h3.more hq, h4⟩
/-- What a reader's end comes to. -/
theorem endM_calls (B q bx at_ : Nat) (hq : q ≤ 16777216) (src : ByteArray) (s : St) (col : Nat → Nat) (sv dv cv : Value) (w : World) (hg : RdR B q bx src s (0, 0) col sv dv cv w) :
    Calls Tryz.prog 88 #[.pointer (some ⟨bx, 0, none⟩), .int .i64 (at_ : Nat)] w (RlP B (q + 1) bx src (s.endA at_) w) := by
  obtain ⟨f, rest, defs, many, calls⟩ := s
  cases rest with
  | nil => exact (endM_none B q bx at_ src _ col sv dv cv w hg rfl).mono fun e w' hp => hp.more (Nat.le_succ q)
  | cons f2 r =>
    by_cases hk : f.kind = 6
    · exact endM_def B q bx at_ hq src f f2 r defs many calls hk col sv dv cv w hg
    · exact endM_if B q bx at_ hq src f f2 r defs many calls hk col sv dv cv w hg
/-- The shape of an action's words. -/
def shp (l : List By) : Nat := match l with
  | [w] => if w = kEnd then 1 else if w = kElse then 2 else 3
  | [w, _] => if w = kIf ∨ w = kRange then 4 else if w = kDef then 6 else 7
  | [w, _, _] => if w = kCall then 5 else 7
  | _ => 0
theorem strs_at {ok : Nat → Prop} {w : World} {a : Option Addr} {n c : Nat} {l : List ByteArray} (h : Strs ok w (.slice a n c) l) (hl : l ≠ []) : ∃ b o, a = some ⟨b, o, none⟩ ∧ ok b ∧ ∀ i s, l[i]? = some s → w.cell? ⟨b, o + i, none⟩ = some (.string s) := by
  obtain ⟨a', c', hv, -, -, h3⟩ := h
  injection hv with e1 e2 e3
  subst e1
  exact h3 hl
theorem tl_eq (X : ByteArray) (l : By) : (X.toList == l) = decide (bl X = l) := by
  rw [ByteArray.toList_eq, Bool.eq_iff_iff, beq_iff_eq, decide_eq_true_iff]; rfl
theorem pre_eq (x : ByteArray) (h : 4 ≤ x.size) : ((x.extract 0 2).toList == [47, 42]) = decide ((bl x).take 2 = [47, 42]) := by
  rw [tl_eq, ext_bl x 0 2 (by omega), List.drop_zero]
theorem suf_eq (x : ByteArray) (h : 4 ≤ x.size) : ((x.extract (x.size - 2) x.size).toList == [42, 47]) = decide ((bl x).drop ((bl x).length - 2) = [42, 47]) := by
  rw [tl_eq, ext_bl x _ _ (Nat.le_refl _)]
  have e : (bl x).length = x.size := rfl
  rw [List.take_of_length_le (by rw [List.length_drop]; omega), e]
set_option maxRecDepth 100000 in
/-- A comment is nothing. -/
theorem actM_comment (B q bx : Nat) (x : ByteArray) (hx : x.size ≤ 16777216) (at_ : Nat) (src : ByteArray) (s : St) (w : World) (hg : RdN B q bx src s (0, 0) w) (hc : comment (bl x) = true) :
    Calls Tryz.prog 46 #[.pointer (some ⟨bx, 0, none⟩), .string x, .int .i64 (at_ : Nat)] w (RlP B q bx src (action (bl x) at_ s) w) := by
  have HE : Hid (action (bl x) at_ s = .ok s) := by unfold Hid action; rw [if_pos hc]
  have hl : (bl x).length = x.size := rfl
  unfold comment at hc
  rw [Bool.and_eq_true, Bool.and_eq_true] at hc
  obtain ⟨⟨h1, h2⟩, h3⟩ := hc
  have h4 : 4 ≤ x.size := by have := of_decide_eq_true h1; omega
  have q1 := (pre_eq x h4).trans h2
  have q2 := (suf_eq x h4).trans h3
  have h4i : (4 : Int) ≤ (x.size : Int) := by omega
  have wn2 : IntKind.i64.wrap ((x.size : Int) - 2) = ((x.size - 2 : Nat) : Int) := by rw [IntWalk.i64_in _ (by omega)]; omega
  have wn3 : IntKind.i64.wrap ((x.size : Int) + -2) = ((x.size - 2 : Nat) : Int) := by rw [IntWalk.i64_in _ (by omega)]; omega
  have wl2 : ((x.size - 2 : Nat) : Int) ≤ (x.size : Int) := by omega
  have wl3 : (2 : Int) ≤ (x.size : Int) := by omega
  have HG := Lib.hid hg
  clear h1 h2 h3 hg hl
  go_enter Tryz.func46, Tryz.ntmps46
  go_wp2_with fail
  go_end0
  rw [HE.out]
  exact ⟨rfl, Below.refl _ _, s, (0, 0), HG.out, rfl, rfl⟩
set_option maxRecDepth 100000 in
set_option maxHeartbeats 4000000 in
/-- The call, out of what stands behind its words. -/
noncomputable def actMCap (B q bx : Nat) (hq : q ≤ 16777212) (x : ByteArray) (hx : x.size ≤ 16777216) (at_ : Nat) (src : ByteArray) (s : St) (w : World) (h : RdN B q bx src s (0, 0) w) (hc : comment (bl x) = false) :
    PSigma fun P : Nat → Prop => (∀ u, P u) → Calls Tryz.prog 46 #[.pointer (some ⟨bx, 0, none⟩), .string x, .int .i64 (at_ : Nat)] w (RlP B (q + 3) bx src (action (bl x) at_ s) w) := by
  refine ⟨?P, fun CAP => ?main⟩
  case main =>
    have h0 := h
    obtain ⟨col, sv, dv, cv, hg⟩ := h0
    have HA := Lib.hid (action_w (bl x) at_ s hc)
    have HWL := Lib.hid (words_len (bl x))
    have WC := Lib.hid (wordsR_calls x hx w)
    obtain ⟨WL, hWL⟩ : ∃ WL, wordsB (bl x) = WL := ⟨_, rfl⟩
    unfold WdP at WC
    rw [hWL] at HA HWL WC
    obtain ⟨g, c, hsv, hc1, hc2⟩ : ∃ g c, sv = .slice (some ⟨g, 0, none⟩) (s.rest.length + 1) c ∧ s.rest.length + 1 ≤ c ∧ c ≤ maxLen := by obtain ⟨g, c, -, -, -, -, h1, h2, h3, -⟩ := hg.top; exact ⟨g, c, h1, h2, h3⟩
    subst hsv
    have c1 := hg.cells.2.1
    have hl2 := hg.l2
    have hbx := lt_of_block hg.hx
    have wn : IntKind.i64.wrap (((s.rest.length + 1 : Nat) : Int) + -1) = (s.rest.length : Int) := by rw [IntWalk.i64_in _ (by omega)]; omega
    have wn2 : IntKind.i64.wrap ((x.size : Int) - 2) = ((x.size - 2 : Nat) : Int) ∨ x.size < 2 := by
      by_cases h2 : 2 ≤ x.size
      · left; rw [IntWalk.i64_in _ (by omega)]; omega
      · right; omega
    have HCM : Hid (comment (bl x) = false) := hc
    have HG := Lib.hid hg
    clear hg hWL
    have hcm : Hid (∃ b1 b2 : Bool, (4 ≤ x.size → ((x.extract 0 2).toList == [47, 42]) = b1 ∧ ((x.extract (x.size - 2) x.size).toList == [42, 47]) = b2 ∧ (b1 && b2) = false)) := by
      refine ⟨decide ((bl x).take 2 = [47, 42]), decide ((bl x).drop ((bl x).length - 2) = [42, 47]), fun h4 => ⟨pre_eq x h4, suf_eq x h4, ?_⟩⟩
      unfold comment at hc
      have : decide (4 ≤ (bl x).length) = true := decide_eq_true h4
      rw [this, Bool.true_and] at hc
      exact hc
    obtain ⟨b1, b2, hcm⟩ := hcm.out
    have key : (¬ (4 : Int) ≤ (x.size : Int)) ∨ ((4 : Int) ≤ (x.size : Int)) ∧ ((x.extract 0 2).toList == [47, 42]) = b1 ∧ ((x.extract (x.size - 2) x.size).toList == [42, 47]) = b2 ∧ (b1 && b2) = false ∧ IntKind.i64.wrap ((x.size : Int) - 2) = ((x.size - 2 : Nat) : Int) ∧ IntKind.i64.wrap ((x.size : Int) + -2) = ((x.size - 2 : Nat) : Int) ∧ ((x.size - 2 : Nat) : Int) ≤ (x.size : Int) ∧ (2 : Int) ≤ (x.size : Int) := by
      by_cases h4 : 4 ≤ x.size
      · obtain ⟨e1, e2, e3⟩ := hcm h4
        exact .inr ⟨by omega, e1, e2, e3, by rw [IntWalk.i64_in _ (by omega)]; omega, by rw [IntWalk.i64_in _ (by omega)]; omega, by omega, by omega⟩
      · exact .inl (by omega)
    have KEY := Lib.hid key
    clear hcm wn2 key HCM
    go_enter Tryz.func46, Tryz.ntmps46
    go_upto_region 1 with (fail)
    go_cut [36] (fun v36 wx => v36 = .bool false ∧ w = wx)
    case first =>
      rcases KEY.out with h4 | ⟨h4, e1, e2, hbb, k1, k2, k3, k4⟩
      · go_wp2_with fail
        go_meet
        exact ⟨rfl, rfl⟩
      · cases b1 with
        | false =>
          go_wp2_with fail
          go_meet
          exact ⟨rfl, rfl⟩
        | true =>
          cases b2 with
          | true => exact absurd hbb (by decide)
          | false =>
            go_wp2_with fail
            go_meet
            exact ⟨rfl, rfl⟩
    case rest =>
      obtain ⟨rfl, rfl⟩ := hcut
      clear KEY
      go_upto_region 3 with (go_at_call 87; refine WC.out.mono ?_; rintro e w1 ⟨wv, rfl, hb1, hst⟩)
      obtain ⟨LB, hLB⟩ : ∃ LB, WL.map mkB = LB := ⟨_, rfl⟩
      rw [hLB] at hst
      have HLB := Lib.hid hLB
      clear hLB
      obtain ⟨wa, wc1, rfl, hw1, hw2, -⟩ := id hst
      have hg1 := HG.out.same (same_fresh (B := B) hb1) (fun _ _ _ => trivial) (Nat.le_refl q)
      have HG1 := Lib.hid hg1
      have HS1 : Hid (Strs (Ok (freshC col w.heap.size) w1) w1 (.slice wa LB.length wc1) LB) := hst.mono (fun b hb => fresh_ok hb)
      have HB1 := Lib.hid (hb1.mono HG.out.hB)
      have c1' : w1.cell? ⟨bx, 1, none⟩ = some (.slice (some ⟨g, 0, none⟩) (s.rest.length + 1) c) := hg1.cells.2.1
      clear HG WC hst hb1 hg1 c1 hbx
      go_upto_region 5 with (fail)
      rename_i K1 hK1
      obtain ⟨u, hu⟩ : ∃ u : Nat, shp WL = u := ⟨_, rfl⟩
      have HC := CAP u
      clear CAP hcm b1 b2 wn
      revert u21 u22 u23 u24 u25 u26 u27 u28 u29 u30 u31 u32 u33 u34 u35 u37 u38 u39 u40 u41 u42 u43 u44 u45 u46 u47 u49 u50 u51 u52 u53 u54 u55 u56 u57 u58 u59 u60 u62 u63 u64 u65 u66 u67 u68 u69 u70 u71 u72 u73 u74 u75 u76 u77 u78 u79 u80 u81 u82 u83 u84 u85 u86 u87 u88 u89 u90 u91 u92 u93 u94 u95 u96 u97 u98 u99 u100 u101 u102 u103 u104 u105 u107 u108 u109 u110 u111 u112 u113 u114 u115 u116 u117 u118 u119 u120 u121 u122 u123 u124 u125 u126 u127 u128 u129 u131 u132 u133 u134 u135 u136 u137 u138 u139 u140 u141 u142 u143 u144 u145 u146 u147 u148 u149 u150 u151 u152 u153 u154 u155 u156 u157 u158 u159 u160 u161 u162 u163 u164 u165 u166 u167 u168 u169 u170 u171 u172 u173 u174 u176 u177 u178 u179 u180 u181 u182 u183 u184 u185 u186 u187 u188 u189 u190 u191 u192 u193 u194 u195 u196 u197 u198 u199 u200 u201 u202 u203 u204 u205 u206 u207 u208 u209 u210 u211 u212 u213 u214 u215 u216 u217 u218 u219 u220 u221 u222 u223 u224 u225 u226 u227 u229 u230 u231 u232 u233 u234 u235 u236 u237 u238 u239 u240 u241 u242 u243 u244 u245 u246 u247 u248 u249 u250 u251 u252 u253 u254 u255 u256 u257 u258 u259 u260 u261 u262 u263 u264 u265 u266 u267 u268 u269 u270 u271 u272 u273 u274 u275 u276 u277 u278 u279 u280 u281 u282 u283 u284 u285
      revert col dv cv WL HWL HA hu g c hc1 hc2 hl2 w1 LB HLB wa wc1 hw1 hw2 HG1 HS1 HB1 c1' K1 hK1
      exact HC
end Go.Proofs.YtdgcdjpjnhlihaaGreatDoor
set_option linter.unusedVariables false
set_option linter.unusedSimpArgs false
namespace Go.Proofs.YtdgcdjpjnhlihaaGreatDoor
open Go.RowKit Go.Shelf

theorem shp0 {l : List By} (h : shp l = 0) (at_ : Nat) (s : St) : actW l at_ s = .err 190 at_ ∧ l.length ≠ 1 ∧ l.length ≠ 2 ∧ l.length ≠ 3 := by
  match l, h with
  | [], _ => exact ⟨rfl, by decide, by decide, by decide⟩
  | [w], h => simp only [shp] at h; split at h <;> first | (split at h <;> omega) | omega
  | [w, a], h => simp only [shp] at h; split at h <;> first | (split at h <;> omega) | omega
  | [w, a, c], h => simp only [shp] at h; split at h <;> omega
  | a :: b :: c :: d :: r, _ => exact ⟨rfl, by simp, by simp, by simp⟩
theorem shp7 {l : List By} (h : shp l = 7) (at_ : Nat) (s : St) : actW l at_ s = .err 190 at_ ∧ ((∃ w a, l = [w, a] ∧ w ≠ kIf ∧ w ≠ kRange ∧ w ≠ kDef) ∨ (∃ w a c, l = [w, a, c] ∧ w ≠ kCall)) := by
  match l, h with
  | [w], h => simp only [shp] at h; split at h <;> first | (split at h <;> omega) | omega
  | [w, a], h =>
    simp only [shp] at h
    split at h
    · omega
    · split at h
      · omega
      · rename_i h1 h2
        refine ⟨?_, .inl ⟨w, a, rfl, fun e => h1 (.inl e), fun e => h1 (.inr e), h2⟩⟩
        show act2 w a at_ s = _
        unfold act2
        rw [if_neg h1, if_neg h2]
  | [w, a, c], h =>
    simp only [shp] at h
    split at h
    · omega
    · rename_i h1
      refine ⟨?_, .inr ⟨w, a, c, rfl, h1⟩⟩
      show act3 w a c at_ s = _
      unfold act3
      rw [if_neg h1]
set_option maxRecDepth 100000 in
set_option maxHeartbeats 8000000 in
theorem arm_0 (B q bx : Nat) (hq : q ≤ 16777212) (x : ByteArray) (hx : x.size ≤ 16777216) (at_ : Nat) (src : ByteArray) (s : St) (w : World) (h : RdN B q bx src s (0, 0) w) (hc : comment (bl x) = false) : (actMCap B q bx hq x hx at_ src s w h hc).1 0 := by
  unfold actMCap
  intro col dv cv WL HWL HA g c hc1 hc2 hl2 w1 LB HLB wa wc1 hw1 hw2 HG1 HS1 HB1 c1' K1 hK1 hu
  intros
  clear h hc
  obtain ⟨hE, n1, n2, n3⟩ := shp0 hu at_ s
  have HE : Hid (action (bl x) at_ s = .err 190 at_) := HA.out.trans hE
  have hlw : LB.length = WL.length := by rw [← HLB.out, List.length_map]
  obtain ⟨n, hn⟩ : ∃ n, LB.length = n := ⟨_, rfl⟩
  have t1 : ((n : Int) == 1) = false := beq_eq_false_iff_ne.2 (by omega)
  have t2 : ((n : Int) == 2) = false := beq_eq_false_iff_ne.2 (by omega)
  have t3 : ((n : Int) == 3) = false := beq_eq_false_iff_ne.2 (by omega)
  rw [hn]
  clear hE n1 n2 n3 hlw hn hu
  have FC := Lib.hid (failR_calls B q bx 190 at_ src s (0, 0) _ _ _ _ _ HG1.out)
  clear HG1 HS1 HLB HWL HA c1' hw1 hw2 hc1 hc2 hl2
  go_wp2_with fail
  refine FC.out.mono ?_
  rintro e w2 ⟨rfl, hb2, hs2, hg2⟩
  have HB2 := Lib.hid (HB1.out.trans hb2)
  have HG2 := Lib.hid hg2
  clear hb2 hs2 hg2 FC
  go_wp2_with fail
  first | go_end0 | skip
  rw [HE.out]
  exact ⟨rfl, HB2.out, s, (190, at_), ⟨_, _, _, _, HG2.out.more (by omega)⟩, by decide, rfl⟩
set_option maxRecDepth 100000 in
set_option maxHeartbeats 8000000 in
theorem arm_7 (B q bx : Nat) (hq : q ≤ 16777212) (x : ByteArray) (hx : x.size ≤ 16777216) (at_ : Nat) (src : ByteArray) (s : St) (w : World) (h : RdN B q bx src s (0, 0) w) (hc : comment (bl x) = false) : (actMCap B q bx hq x hx at_ src s w h hc).1 7 := by
  unfold actMCap
  intro col dv cv WL HWL HA g c hc1 hc2 hl2 w1 LB HLB wa wc1 hw1 hw2 HG1 HS1 HB1 c1' K1 hK1 hu
  intros
  clear h hc
  obtain ⟨hE, hcase⟩ := shp7 hu at_ s
  have HE : Hid (action (bl x) at_ s = .err 190 at_) := HA.out.trans hE
  clear hE hu
  rcases hcase with ⟨wd, wa2, rfl, k1, k2, k3⟩ | ⟨wd, wa2, wa3, rfl, k1⟩
  · have hl : LB.length = 2 := by rw [← HLB.out]; rfl
    obtain ⟨b, o, rfl, hok, hcs⟩ := strs_at HS1.out (by rw [← HLB.out]; simp)
    obtain ⟨X0, hX0⟩ : ∃ X, mkB wd = X := ⟨_, rfl⟩
    have d0 : w1.cell? ⟨b, o, none⟩ = some (.string X0) := hcs 0 _ (by rw [← HLB.out, ← hX0]; rfl)
    have b0 : bl X0 = wd := by rw [← hX0]; exact bl_mkB _
    obtain ⟨X1, hX1⟩ : ∃ X, mkB wa2 = X := ⟨_, rfl⟩
    have d1 : w1.cell? ⟨b, o + 1, none⟩ = some (.string X1) := hcs 1 _ (by rw [← HLB.out, ← hX1]; rfl)
    have b1 : bl X1 = wa2 := by rw [← hX1]; exact bl_mkB _
    rw [hl]
    have hbl := hok.2.1
    clear hcs hok
    have q1 : (X0.toList == [105, 102]) = false := by rw [tl_eq, b0]; exact decide_eq_false k1
    have q2 : (X0.toList == [114, 97, 110, 103, 101]) = false := by rw [tl_eq, b0]; exact decide_eq_false k2
    have q3 : (X0.toList == [100, 101, 102, 105, 110, 101]) = false := by rw [tl_eq, b0]; exact decide_eq_false k3
    have FC := Lib.hid (failR_calls B q bx 190 at_ src s (0, 0) _ _ _ _ _ HG1.out)
    clear HG1 HS1 HLB HWL HA c1' hw1 hw2 hc1 hc2 hl2
    go_wp2_with fail
    refine FC.out.mono ?_
    rintro e w2 ⟨rfl, hb2, hs2, hg2⟩
    have HB2 := Lib.hid (HB1.out.trans hb2)
    have HG2 := Lib.hid hg2
    clear hb2 hs2 hg2 FC
    go_wp2_with fail
    first | go_end0 | skip
    rw [HE.out]
    exact ⟨rfl, HB2.out, s, (190, at_), ⟨_, _, _, _, HG2.out.more (by omega)⟩, by decide, rfl⟩
  · have hl : LB.length = 3 := by rw [← HLB.out]; rfl
    obtain ⟨b, o, rfl, hok, hcs⟩ := strs_at HS1.out (by rw [← HLB.out]; simp)
    obtain ⟨X0, hX0⟩ : ∃ X, mkB wd = X := ⟨_, rfl⟩
    have d0 : w1.cell? ⟨b, o, none⟩ = some (.string X0) := hcs 0 _ (by rw [← HLB.out, ← hX0]; rfl)
    have b0 : bl X0 = wd := by rw [← hX0]; exact bl_mkB _
    obtain ⟨X1, hX1⟩ : ∃ X, mkB wa2 = X := ⟨_, rfl⟩
    have d1 : w1.cell? ⟨b, o + 1, none⟩ = some (.string X1) := hcs 1 _ (by rw [← HLB.out, ← hX1]; rfl)
    have b1 : bl X1 = wa2 := by rw [← hX1]; exact bl_mkB _
    obtain ⟨X2, hX2⟩ : ∃ X, mkB wa3 = X := ⟨_, rfl⟩
    have d2 : w1.cell? ⟨b, o + 2, none⟩ = some (.string X2) := hcs 2 _ (by rw [← HLB.out, ← hX2]; rfl)
    have b2 : bl X2 = wa3 := by rw [← hX2]; exact bl_mkB _
    rw [hl]
    have hbl := hok.2.1
    clear hcs hok
    have q1 : (X0.toList == [99, 97, 108, 108]) = false := by rw [tl_eq, b0]; exact decide_eq_false k1
    have FC := Lib.hid (failR_calls B q bx 190 at_ src s (0, 0) _ _ _ _ _ HG1.out)
    clear HG1 HS1 HLB HWL HA c1' hw1 hw2 hc1 hc2 hl2
    go_wp2_with fail
    refine FC.out.mono ?_
    rintro e w2 ⟨rfl, hb2, hs2, hg2⟩
    have HB2 := Lib.hid (HB1.out.trans hb2)
    have HG2 := Lib.hid hg2
    clear hb2 hs2 hg2 FC
    go_wp2_with fail
    first | go_end0 | skip
    rw [HE.out]
    exact ⟨rfl, HB2.out, s, (190, at_), ⟨_, _, _, _, HG2.out.more (by omega)⟩, by decide, rfl⟩
end Go.Proofs.YtdgcdjpjnhlihaaGreatDoor
set_option linter.unusedVariables false
set_option linter.unusedSimpArgs false
namespace Go.Proofs.YtdgcdjpjnhlihaaGreatDoor
open Go.RowKit Go.Shelf

theorem shp1 {l : List By} (h : shp l = 1) : l = [kEnd] := by
  match l, h with
  | [w], h => simp only [shp] at h; split at h <;> first | (rename_i e; rw [e]) | (split at h <;> omega)
  | [w, a], h => simp only [shp] at h; split at h <;> first | (split at h <;> omega) | omega
  | [w, a, c], h => simp only [shp] at h; split at h <;> omega
set_option maxRecDepth 100000 in
set_option maxHeartbeats 8000000 in
theorem arm_1 (B q bx : Nat) (hq : q ≤ 16777212) (x : ByteArray) (hx : x.size ≤ 16777216) (at_ : Nat) (src : ByteArray) (s : St) (w : World) (h : RdN B q bx src s (0, 0) w) (hc : comment (bl x) = false) : (actMCap B q bx hq x hx at_ src s w h hc).1 1 := by
  unfold actMCap
  intro col dv cv WL HWL HA g c hc1 hc2 hl2 w1 LB HLB wa wc1 hw1 hw2 HG1 HS1 HB1 c1' K1 hK1 hu
  intros
  clear h hc
  obtain rfl := shp1 hu
  have HE : Hid (action (bl x) at_ s = s.endA at_) := HA.out.trans (actW_end at_ s)
  have hl : LB.length = 1 := by rw [← HLB.out]; rfl
  obtain ⟨b, o, rfl, hok, hcs⟩ := strs_at HS1.out (by rw [← HLB.out]; simp)
  obtain ⟨X0, hX0⟩ : ∃ X, mkB kEnd = X := ⟨_, rfl⟩
  have d0 : w1.cell? ⟨b, o, none⟩ = some (.string X0) := hcs 0 _ (by rw [← HLB.out, ← hX0]; rfl)
  have b0 : bl X0 = kEnd := by rw [← hX0]; exact bl_mkB _
  rw [hl]
  have hbl := hok.2.1
  clear hcs hok
  have q1 : (X0.toList == [101, 110, 100]) = true := by rw [tl_eq, b0]; exact rfl
  have EN := Lib.hid (endM_calls B q bx at_ (by omega) src s _ _ _ _ _ HG1.out)
  clear HG1 HS1 HLB HWL HA c1' hw1 hw2 hc1 hc2 hl2 hl hu b0
  go_wp2_with fail
  refine EN.out.mono ?_
  rintro e w2 ⟨rfl, hb2, s2, E2, hr2, hlt2⟩
  have HB2 := Lib.hid (HB1.out.trans hb2)
  have HR2 := Lib.hid hr2
  have HL2 := Lib.hid hlt2
  clear hb2 hr2 hlt2 EN
  go_wp2_with fail
  first | go_end0 | skip
  rw [HE.out]
  exact ⟨rfl, HB2.out, s2, E2, HR2.out.more (by omega), HL2.out⟩
end Go.Proofs.YtdgcdjpjnhlihaaGreatDoor
set_option linter.unusedVariables false
set_option linter.unusedSimpArgs false
namespace Go.Proofs.YtdgcdjpjnhlihaaGreatDoor
open Go.RowKit Go.Shelf

theorem shp3 {l : List By} (h : shp l = 3) : ∃ w, l = [w] ∧ w ≠ kEnd ∧ w ≠ kElse := by
  match l, h with
  | [w], h =>
    simp only [shp] at h
    split at h
    · omega
    · split at h
      · omega
      · rename_i h1 h2; exact ⟨w, rfl, h1, h2⟩
  | [w, a], h => simp only [shp] at h; split at h <;> first | (split at h <;> omega) | omega
  | [w, a, c], h => simp only [shp] at h; split at h <;> omega
theorem lt_add (s : St) (h : Hd) (at_ : Nat) : Lt (s.add h at_) (({ s with many := s.many + 1 } : St).put h .nil .nil) (cntE s.many (0, 0) at_) := by
  unfold St.add St.count cntE
  by_cases hg : 1024 < s.many + 1
  · rw [if_pos hg, if_pos hg]; exact ⟨by decide, rfl⟩
  · rw [if_neg hg, if_neg hg]; exact ⟨rfl, rfl⟩
set_option maxRecDepth 100000 in
set_option maxHeartbeats 8000000 in
theorem arm_3 (B q bx : Nat) (hq : q ≤ 16777212) (x : ByteArray) (hx : x.size ≤ 16777216) (at_ : Nat) (src : ByteArray) (s : St) (w : World) (h : RdN B q bx src s (0, 0) w) (hc : comment (bl x) = false) : (actMCap B q bx hq x hx at_ src s w h hc).1 3 := by
  unfold actMCap
  intro col dv cv WL HWL HA g c hc1 hc2 hl2 w1 LB HLB wa wc1 hw1 hw2 HG1 HS1 HB1 c1' K1 hK1 hu
  intros
  clear h hc
  obtain ⟨wd, rfl, k1, k2⟩ := shp3 hu
  have HE0 : Hid (action (bl x) at_ s = match wayB wd with
      | none => .err 190 at_
      | some p => s.add (hdHole at_ p.1 p.2) at_) := by
    refine HA.out.trans ?_
    show act1 wd at_ s = _
    unfold act1
    rw [if_neg k1, if_neg k2]
    cases wayB wd <;> rfl
  have hl : LB.length = 1 := by rw [← HLB.out]; rfl
  obtain ⟨b, o, rfl, hok, hcs⟩ := strs_at HS1.out (by rw [← HLB.out]; simp)
  obtain ⟨X0, hX0⟩ : ∃ X, mkB wd = X := ⟨_, rfl⟩
  have d0 : w1.cell? ⟨b, o, none⟩ = some (.string X0) := hcs 0 _ (by rw [← HLB.out, ← hX0]; rfl)
  have b0 : bl X0 = wd := by rw [← hX0]; exact bl_mkB _
  rw [hl]
  have hbl := hok.2.1
  clear hcs hok
  have q1 : (X0.toList == [101, 110, 100]) = false := by rw [tl_eq, b0]; exact decide_eq_false k1
  have q2 : (X0.toList == [101, 108, 115, 101]) = false := by rw [tl_eq, b0]; exact decide_eq_false k2
  have hXs : X0.size ≤ 16777216 := by have h1 := HWL.out wd (by simp); rw [← b0] at h1; have h2 : (bl X0).length = X0.size := rfl; have h3 : (bl x).length = x.size := rfl; omega
  have PC := Lib.hid (pathR_calls X0 hXs w1)
  rw [b0] at PC
  have HB1w : B ≤ w1.heap.size := HG1.out.hB
  clear k1 k2 hu hl
  cases hr : wayB wd with
  | none =>
    have HE : Hid (action (bl x) at_ s = .err 190 at_) := by unfold Hid; rw [HE0.out, hr]
    clear HE0
    rw [hr] at PC
    go_upto_region 17 with (go_at_call 89; refine PC.out.mono ?_; rintro e w2 ⟨hb2, rfl⟩)
    have hg3 := (HG1.out.same (same_fresh (B := B) hb2) (fun _ _ _ => trivial) (Nat.le_refl q)).same (same_dyed w2 (.cells #[.bool false, .slice none 0 0] 56) 5) (fun _ _ _ => trivial) (Nat.le_refl q)
    have FC := Lib.hid (failR_calls B q bx 190 at_ src s (0, 0) _ _ _ _ _ hg3)
    have HB3 := Lib.hid ((HB1.out.trans (hb2.mono HB1w)).alloc (Nat.le_trans HB1w hb2.size) (.cells #[.bool false, .slice none 0 0] 56))
    clear hg3 hb2 HG1 HS1 HLB HWL HA c1' hw1 hw2 hc1 hc2 hl2 PC
    go_wp2_with fail
    refine FC.out.mono ?_
    rintro e w4 ⟨rfl, hb4, hs4, hg4⟩
    have HB4 := Lib.hid (HB3.out.trans hb4)
    have HG4 := Lib.hid hg4
    clear hb4 hs4 hg4 FC
    go_wp2_with fail
    first | go_end0 | skip
    rw [HE.out]
    exact ⟨rfl, HB4.out, s, (190, at_), ⟨_, _, _, _, HG4.out.more (by omega)⟩, by decide, rfl⟩
  | some p =>
    have HE : Hid (action (bl x) at_ s = s.add (hdHole at_ p.1 p.2) at_) := by unfold Hid; rw [HE0.out, hr]
    clear HE0
    rw [hr] at PC
    go_upto_region 17 with (go_at_call 89; refine PC.out.mono ?_; rintro e w2 ⟨hb2, v, rfl, hv2⟩; obtain ⟨na, nc, rfl, -⟩ := id hv2)
    rw [List.length_map] at hv2
    generalize hNL : p.2.length = nl at hv2 ⊢
    clear hNL
    have SA := same_dyed (col := freshC (freshC col w.heap.size) w1.heap.size) w2 (.cells #[.bool p.1, .slice na nl nc] 56) 5
    have hg3 := (HG1.out.same (same_fresh (B := B) hb2) (fun _ _ _ => trivial) (Nat.le_refl q)).same SA (fun _ _ _ => trivial) (Nat.le_refl q)
    have hv3 := SA.strs trivial (hv2.mono (fun b hb => fresh_ok (col := freshC col w.heap.size) hb))
    have hP3 := heap_alloc_new w2 (.cells #[.bool p.1, .slice na nl nc] 56)
    have hc5 : dye (freshC (freshC col w.heap.size) w1.heap.size) w2.heap.size 5 w2.heap.size = 5 := dye_new _ _
    have HB3 := Lib.hid ((HB1.out.trans (hb2.mono HB1w)).alloc (Nat.le_trans HB1w hb2.size) (.cells #[.bool p.1, .slice na nl nc] 56))
    have hz3 : w2.heap.size < (w2.alloc (.cells #[.bool p.1, .slice na nl nc] 56)).heap.size := by simp
    have hdw : ∀ a : Addr, a.block < w1.heap.size → ∀ u, w1.cell? a = some u → (w2.alloc (.cells #[.bool p.1, .slice na nl nc] 56)).cell? a = some u := fun a ha u hu => (World.cell?_alloc_old w2 _ _ (Nat.ne_of_lt (Nat.lt_of_lt_of_le ha hb2.size))).trans ((hb2.cell ha).trans hu)
    clear hv2 SA hb2 HG1 HS1 c1' PC
    generalize dye (freshC (freshC col w.heap.size) w1.heap.size) w2.heap.size 5 = col3 at *
    generalize hW3 : World.alloc w2 _ = w3 at *
    clear hW3
    generalize hP : w2.heap.size = PB at *
    clear hP
    have CC := Lib.hid (countM_calls B q bx at_ (by omega) src s (0, 0) _ _ _ _ _ hg3)
    have HV3 := Lib.hid hv3
    clear hg3 hv3 hdw
    go_wp2_with fail
    refine CC.out.mono ?_
    rintro e w4 ⟨rfl, hb4, hs4, hg4⟩
    have hP4 : w4.heap[PB]? = _ := (hs4.2 PB hz3 (by rw [hc5]; decide)).2.trans hP3
    have x0 : w4.cell? ⟨PB, 0, none⟩ = some (.bool p.1) := by rw [cell_of_heap' hP4]; rfl
    have x1 : w4.cell? ⟨PB, 1, none⟩ = some (.slice na nl nc) := by rw [cell_of_heap' hP4]; rfl
    have HB4 := Lib.hid (HB3.out.trans hb4)
    have AD : Hid (Calls Tryz.prog 44 #[.pointer (some ⟨bx, 0, none⟩), .agg #[.int .u8 2, .int .i64 (at_ : Nat), .string ⟨#[]⟩, .bool p.1, .slice na nl nc, .string ⟨#[]⟩, .slice none 0 0, .slice none 0 0]] w4 _) :=
      addM_calls B (q + 1) bx (by omega) src { s with many := s.many + 1 } (cntE s.many (0, 0) at_) (hdHole at_ p.1 p.2) .nil .nil _ _ _ _ (.slice na nl nc) (.slice none 0 0) (.slice none 0 0) w4 hg4 (hs4.strs (by decide) HV3.out) (Parts.nil _ _) (Parts.nil _ _)
    clear hs4 hb4 hg4 hP3 hP4 HV3 CC
    go_wp2_with (go_at_call 44; refine AD.out.mono ?_; rintro e w5 ⟨rfl, hb5, hr5⟩)
    first | go_end0 | skip
    rw [HE.out]
    exact ⟨rfl, HB4.out.trans hb5, _, _, hr5.more (by omega), lt_add s _ at_⟩
end Go.Proofs.YtdgcdjpjnhlihaaGreatDoor
set_option linter.unusedVariables false
set_option linter.unusedSimpArgs false
namespace Go.Proofs.YtdgcdjpjnhlihaaGreatDoor
open Go.RowKit Go.Shelf

theorem shp4 {l : List By} (h : shp l = 4) : ∃ (k : Nat) (w a : By), l = [w, a] ∧ ((k = 3 ∧ w = kIf) ∨ (k = 4 ∧ w = kRange)) := by
  match l, h with
  | [w], h => simp only [shp] at h; split at h <;> first | (split at h <;> omega) | omega
  | [w, a], h =>
    simp only [shp] at h
    split at h
    · rename_i h1
      rcases h1 with rfl | rfl
      · exact ⟨3, _, a, rfl, .inl ⟨rfl, rfl⟩⟩
      · exact ⟨4, _, a, rfl, .inr ⟨rfl, rfl⟩⟩
    · split at h <;> omega
  | [w, a, c], h => simp only [shp] at h; split at h <;> omega
theorem lt_begin (s : St) (f : Fr) (at_ m : Nat) (hm : m = s.many) : Lt ((s.begin f at_).bind fun s => s.count at_) { s with top := f, rest := s.top :: s.rest, many := s.many + 1 } (cntE m (begE s.rest.length (0, 0) at_) at_) := by
  subst hm
  unfold St.begin begE
  by_cases h1 : 64 < s.rest.length + 1
  · rw [if_pos h1, if_pos h1]
    refine ⟨by decide, ?_⟩
    unfold cntE
    split <;> rfl
  · rw [if_neg h1, if_neg h1]
    show Lt (St.count at_ { s with top := f, rest := s.top :: s.rest }) _ _
    unfold St.count cntE
    by_cases hg : 1024 < s.many + 1
    · rw [if_pos hg, if_pos hg]; exact ⟨by decide, rfl⟩
    · rw [if_neg hg, if_neg hg]; exact ⟨rfl, rfl⟩
set_option maxRecDepth 100000 in
set_option maxHeartbeats 8000000 in
theorem arm_4 (B q bx : Nat) (hq : q ≤ 16777212) (x : ByteArray) (hx : x.size ≤ 16777216) (at_ : Nat) (src : ByteArray) (s : St) (w : World) (h : RdN B q bx src s (0, 0) w) (hc : comment (bl x) = false) : (actMCap B q bx hq x hx at_ src s w h hc).1 4 := by
  unfold actMCap
  intro col dv cv WL HWL HA g c hc1 hc2 hl2 w1 LB HLB wa wc1 hw1 hw2 HG1 HS1 HB1 c1' K1 hK1 hu
  intros
  clear h hc
  obtain ⟨k, wd, wp, rfl, hk⟩ := shp4 hu
  have HE0 : Hid (action (bl x) at_ s = match wayB wp with
      | none => .err 190 at_
      | some p => (s.begin (kindF k at_ p) at_).bind fun s => s.count at_) := by
    refine HA.out.trans ?_
    rcases hk with ⟨rfl, rfl⟩ | ⟨rfl, rfl⟩
    · exact actW_if wp at_ s
    · exact actW_range wp at_ s
  have hl : LB.length = 2 := by rw [← HLB.out]; rfl
  obtain ⟨b, o, rfl, hok, hcs⟩ := strs_at HS1.out (by rw [← HLB.out]; simp)
  obtain ⟨X0, hX0⟩ : ∃ X, mkB wd = X := ⟨_, rfl⟩
  have d0 : w1.cell? ⟨b, o, none⟩ = some (.string X0) := hcs 0 _ (by rw [← HLB.out, ← hX0]; rfl)
  have b0 : bl X0 = wd := by rw [← hX0]; exact bl_mkB _
  obtain ⟨X1, hX1⟩ : ∃ X, mkB wp = X := ⟨_, rfl⟩
  have d1 : w1.cell? ⟨b, o + 1, none⟩ = some (.string X1) := hcs 1 _ (by rw [← HLB.out, ← hX1]; rfl)
  have b1 : bl X1 = wp := by rw [← hX1]; exact bl_mkB _
  rw [hl]
  have hbl := hok.2.1
  clear hcs hok
  have hXs : X1.size ≤ 16777216 := by have h1 := HWL.out wp (by simp); rw [← b1] at h1; have h2 : (bl X1).length = X1.size := rfl; have h3 : (bl x).length = x.size := rfl; omega
  have PC := Lib.hid (pathR_calls X1 hXs w1)
  rw [b1] at PC
  have HB1w : B ≤ w1.heap.size := HG1.out.hB
  have hk34 : k = 3 ∨ k = 4 := hk.imp And.left And.left
  have QF : Hid ((k = 3 ∧ (X0.toList == [105, 102]) = true ∧ (X0.toList == [114, 97, 110, 103, 101]) = false) ∨ (k = 4 ∧ (X0.toList == [105, 102]) = false ∧ (X0.toList == [114, 97, 110, 103, 101]) = true)) := by
    rcases hk with ⟨rfl, rfl⟩ | ⟨rfl, rfl⟩
    · exact .inl ⟨rfl, by rw [tl_eq, b0]; rfl, by rw [tl_eq, b0]; rfl⟩
    · exact .inr ⟨rfl, by rw [tl_eq, b0]; rfl, by rw [tl_eq, b0]; rfl⟩
  clear hu hl hk
  cases hr : wayB wp with
  | none =>
    have HE : Hid (action (bl x) at_ s = .err 190 at_) := by unfold Hid; rw [HE0.out, hr]
    clear HE0
    rcases QF.out with ⟨rfl, q1, q2⟩ | ⟨rfl, q1, q2⟩
    · rw [hr] at PC
      go_upto_region 23 with (go_at_call 89; refine PC.out.mono ?_; rintro e w2 ⟨hb2, rfl⟩)
      have hg3 := (HG1.out.same (same_fresh (B := B) hb2) (fun _ _ _ => trivial) (Nat.le_refl q)).same (same_dyed w2 (.cells #[.bool false, .slice none 0 0] 56) 5) (fun _ _ _ => trivial) (Nat.le_refl q)
      have FC := Lib.hid (failR_calls B q bx 190 at_ src s (0, 0) _ _ _ _ _ hg3)
      have HB3 := Lib.hid ((HB1.out.trans (hb2.mono HB1w)).alloc (Nat.le_trans HB1w hb2.size) (.cells #[.bool false, .slice none 0 0] 56))
      clear hg3 hb2 HG1 HS1 HLB HWL HA c1' hw1 hw2 hc1 hc2 hl2 PC
      go_wp2_with fail
      refine FC.out.mono ?_
      rintro e w4 ⟨rfl, hb4, hs4, hg4⟩
      have HB4 := Lib.hid (HB3.out.trans hb4)
      have HG4 := Lib.hid hg4
      clear hb4 hs4 hg4 FC
      go_wp2_with fail
      first | go_end0 | skip
      rw [HE.out]
      exact ⟨rfl, HB4.out, s, (190, at_), ⟨_, _, _, _, HG4.out.more (by omega)⟩, by decide, rfl⟩
    · rw [hr] at PC
      go_upto_region 23 with (go_at_call 89; refine PC.out.mono ?_; rintro e w2 ⟨hb2, rfl⟩)
      have hg3 := (HG1.out.same (same_fresh (B := B) hb2) (fun _ _ _ => trivial) (Nat.le_refl q)).same (same_dyed w2 (.cells #[.bool false, .slice none 0 0] 56) 5) (fun _ _ _ => trivial) (Nat.le_refl q)
      have FC := Lib.hid (failR_calls B q bx 190 at_ src s (0, 0) _ _ _ _ _ hg3)
      have HB3 := Lib.hid ((HB1.out.trans (hb2.mono HB1w)).alloc (Nat.le_trans HB1w hb2.size) (.cells #[.bool false, .slice none 0 0] 56))
      clear hg3 hb2 HG1 HS1 HLB HWL HA c1' hw1 hw2 hc1 hc2 hl2 PC
      go_wp2_with fail
      refine FC.out.mono ?_
      rintro e w4 ⟨rfl, hb4, hs4, hg4⟩
      have HB4 := Lib.hid (HB3.out.trans hb4)
      have HG4 := Lib.hid hg4
      clear hb4 hs4 hg4 FC
      go_wp2_with fail
      first | go_end0 | skip
      rw [HE.out]
      exact ⟨rfl, HB4.out, s, (190, at_), ⟨_, _, _, _, HG4.out.more (by omega)⟩, by decide, rfl⟩
  | some p =>
    have HE : Hid (action (bl x) at_ s = (s.begin (kindF k at_ p) at_).bind fun s => s.count at_) := by unfold Hid; rw [HE0.out, hr]
    clear HE0
    rcases QF.out with ⟨rfl, q1, q2⟩ | ⟨rfl, q1, q2⟩
    · rw [hr] at PC
      go_upto_region 23 with (go_at_call 89; refine PC.out.mono ?_; rintro e w2 ⟨hb2, v, rfl, hv2⟩; obtain ⟨na, nc, rfl, -⟩ := id hv2)
      rw [List.length_map] at hv2
      generalize hNL : p.2.length = nl at hv2 ⊢
      clear hNL
      have SA := same_dyed (col := freshC (freshC col w.heap.size) w1.heap.size) w2 (.cells #[.bool p.1, .slice na nl nc] 56) 5
      have hg3 := (HG1.out.same (same_fresh (B := B) hb2) (fun _ _ _ => trivial) (Nat.le_refl q)).same SA (fun _ _ _ => trivial) (Nat.le_refl q)
      have hv3 := SA.strs trivial (hv2.mono (fun b hb => fresh_ok (col := freshC col w.heap.size) hb))
      have hP3 := heap_alloc_new w2 (.cells #[.bool p.1, .slice na nl nc] 56)
      have hc5 : dye (freshC (freshC col w.heap.size) w1.heap.size) w2.heap.size 5 w2.heap.size = 5 := dye_new _ _
      have HB3 := Lib.hid ((HB1.out.trans (hb2.mono HB1w)).alloc (Nat.le_trans HB1w hb2.size) (.cells #[.bool p.1, .slice na nl nc] 56))
      have hz3 : w2.heap.size < (w2.alloc (.cells #[.bool p.1, .slice na nl nc] 56)).heap.size := by simp
      have hdw : ∀ a : Addr, a.block < w1.heap.size → ∀ u, w1.cell? a = some u → (w2.alloc (.cells #[.bool p.1, .slice na nl nc] 56)).cell? a = some u := fun a ha u hu => (World.cell?_alloc_old w2 _ _ (Nat.ne_of_lt (Nat.lt_of_lt_of_le ha hb2.size))).trans ((hb2.cell ha).trans hu)
      clear hv2 SA hb2 HG1 HS1 c1' PC
      generalize dye (freshC (freshC col w.heap.size) w1.heap.size) w2.heap.size 5 = col3 at *
      generalize hW3 : World.alloc w2 _ = w3 at *
      clear hW3
      generalize hP : w2.heap.size = PB at *
      clear hP
      have hdd : w3.cell? ⟨b, o, none⟩ = some (.string X0) := hdw ⟨b, o, none⟩ hbl _ d0
      have x0 : w3.cell? ⟨PB, 0, none⟩ = some (.bool p.1) := by rw [cell_of_heap' hP3]; rfl
      have x1 : w3.cell? ⟨PB, 1, none⟩ = some (.slice na nl nc) := by rw [cell_of_heap' hP3]; rfl
      have BG : Hid (Calls Tryz.prog 90 #[.pointer (some ⟨bx, 0, none⟩), .agg #[.int .i64 3, .int .u8 3, .int .i64 (at_ : Nat), .string ⟨#[]⟩, .bool p.1, .slice na nl nc, .string ⟨#[]⟩, .slice none 0 0, .slice none 0 0, .bool false, .slice none 0 0, .string ⟨#[]⟩, .int .i64 0, .slice none 0 0], .int .i64 (at_ : Nat)] w3 _) :=
        beginM_calls B q bx at_ (by omega) src s (0, 0) (kindF 3 at_ p) 3 3 (at_ : Nat) 0 p.1 ⟨#[]⟩ na nl nc _ _ _ _ w3 hg3 rfl (hv3) rfl rfl
      clear hg3 hv3 hdw hP3
      go_wp2_with (go_at_call 90; refine BG.out.mono ?_; rintro e w4 ⟨rfl, hb4, hr4⟩; obtain ⟨col4, sv4, dv4, cv4, hg4⟩ := hr4; have CC := Lib.hid (countM_calls B (q + 1) bx at_ (by omega) src _ _ _ _ _ _ _ hg4); have HB4 := Lib.hid (HB3.out.trans hb4); clear hb4 hg4)
      refine CC.out.mono ?_
      rintro e w5 ⟨rfl, hb5, hs5, hg5⟩
      have HB5 := Lib.hid (HB4.out.trans hb5)
      have HG5 := Lib.hid hg5
      clear hb5 hs5 hg5 CC
      go_wp2_with fail
      first | go_end0 | skip
      rw [HE.out]
      exact ⟨rfl, HB5.out, _, _, ⟨_, _, _, _, HG5.out.more (by omega)⟩, lt_begin s _ at_ _ rfl⟩
    · rw [hr] at PC
      go_upto_region 23 with (go_at_call 89; refine PC.out.mono ?_; rintro e w2 ⟨hb2, v, rfl, hv2⟩; obtain ⟨na, nc, rfl, -⟩ := id hv2)
      rw [List.length_map] at hv2
      generalize hNL : p.2.length = nl at hv2 ⊢
      clear hNL
      have SA := same_dyed (col := freshC (freshC col w.heap.size) w1.heap.size) w2 (.cells #[.bool p.1, .slice na nl nc] 56) 5
      have hg3 := (HG1.out.same (same_fresh (B := B) hb2) (fun _ _ _ => trivial) (Nat.le_refl q)).same SA (fun _ _ _ => trivial) (Nat.le_refl q)
      have hv3 := SA.strs trivial (hv2.mono (fun b hb => fresh_ok (col := freshC col w.heap.size) hb))
      have hP3 := heap_alloc_new w2 (.cells #[.bool p.1, .slice na nl nc] 56)
      have hc5 : dye (freshC (freshC col w.heap.size) w1.heap.size) w2.heap.size 5 w2.heap.size = 5 := dye_new _ _
      have HB3 := Lib.hid ((HB1.out.trans (hb2.mono HB1w)).alloc (Nat.le_trans HB1w hb2.size) (.cells #[.bool p.1, .slice na nl nc] 56))
      have hz3 : w2.heap.size < (w2.alloc (.cells #[.bool p.1, .slice na nl nc] 56)).heap.size := by simp
      have hdw : ∀ a : Addr, a.block < w1.heap.size → ∀ u, w1.cell? a = some u → (w2.alloc (.cells #[.bool p.1, .slice na nl nc] 56)).cell? a = some u := fun a ha u hu => (World.cell?_alloc_old w2 _ _ (Nat.ne_of_lt (Nat.lt_of_lt_of_le ha hb2.size))).trans ((hb2.cell ha).trans hu)
      clear hv2 SA hb2 HG1 HS1 c1' PC
      generalize dye (freshC (freshC col w.heap.size) w1.heap.size) w2.heap.size 5 = col3 at *
      generalize hW3 : World.alloc w2 _ = w3 at *
      clear hW3
      generalize hP : w2.heap.size = PB at *
      clear hP
      have hdd : w3.cell? ⟨b, o, none⟩ = some (.string X0) := hdw ⟨b, o, none⟩ hbl _ d0
      have x0 : w3.cell? ⟨PB, 0, none⟩ = some (.bool p.1) := by rw [cell_of_heap' hP3]; rfl
      have x1 : w3.cell? ⟨PB, 1, none⟩ = some (.slice na nl nc) := by rw [cell_of_heap' hP3]; rfl
      have BG : Hid (Calls Tryz.prog 90 #[.pointer (some ⟨bx, 0, none⟩), .agg #[.int .i64 4, .int .u8 4, .int .i64 (at_ : Nat), .string ⟨#[]⟩, .bool p.1, .slice na nl nc, .string ⟨#[]⟩, .slice none 0 0, .slice none 0 0, .bool false, .slice none 0 0, .string ⟨#[]⟩, .int .i64 0, .slice none 0 0], .int .i64 (at_ : Nat)] w3 _) :=
        beginM_calls B q bx at_ (by omega) src s (0, 0) (kindF 4 at_ p) 4 4 (at_ : Nat) 0 p.1 ⟨#[]⟩ na nl nc _ _ _ _ w3 hg3 rfl (hv3) rfl rfl
      clear hg3 hv3 hdw hP3
      go_wp2_with (go_at_call 90; refine BG.out.mono ?_; rintro e w4 ⟨rfl, hb4, hr4⟩; obtain ⟨col4, sv4, dv4, cv4, hg4⟩ := hr4; have CC := Lib.hid (countM_calls B (q + 1) bx at_ (by omega) src _ _ _ _ _ _ _ hg4); have HB4 := Lib.hid (HB3.out.trans hb4); clear hb4 hg4)
      refine CC.out.mono ?_
      rintro e w5 ⟨rfl, hb5, hs5, hg5⟩
      have HB5 := Lib.hid (HB4.out.trans hb5)
      have HG5 := Lib.hid hg5
      clear hb5 hs5 hg5 CC
      go_wp2_with fail
      first | go_end0 | skip
      rw [HE.out]
      exact ⟨rfl, HB5.out, _, _, ⟨_, _, _, _, HG5.out.more (by omega)⟩, lt_begin s _ at_ _ rfl⟩
end Go.Proofs.YtdgcdjpjnhlihaaGreatDoor
