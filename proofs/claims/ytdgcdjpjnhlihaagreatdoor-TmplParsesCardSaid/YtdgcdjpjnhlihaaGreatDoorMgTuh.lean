/-
  lacunaref19's action: define. The condition: no list is longer than 2 to the 24th.
-/
/-
  The contract of lacunaref19's action; what kinds of frames there are. The condition: no list is longer than 2 to the 24th.
-/
/-
  Plain laws: where the first bytes stand that are no code point; how the reader's loop goes on. A reader at its start in memory. No condition.
-/
/-
  lacunaref19.Parse up to its loop (captured: the loop; what comes behind it). The condition: the source takes at most 16384 bytes.
-/
import Derived.Test.YtdgcdjpjnhlihaaGreatDoorMgTua
import Derived.Test.YtdgcdjpjnhlihaaGreatDoorTdfM
import Derived.Test.YtdgcdjpjnhlihaaGreatDoorTudM
import Derived.Test.YtdgcdjpjnhlihaaGreatDoorTugM
import Derived.Test.YtdgcdjpjnhlihaaGreatDoorMgTac2
import Derived.Test.YtdgcdjpjnhlihaaGreatDoorMgTfm
import Derived.Test.YtdgcdjpjnhlihaaGreatDoorMgTrp
import Derived.Deep.DeepCutAuto
import Derived.Deep.CutBlock
set_option linter.unusedVariables false
set_option linter.unusedSimpArgs false
namespace Go.Proofs.YtdgcdjpjnhlihaaGreatDoor
open Go.RowKit Go.Shelf

theorem shp6 {l : List By} (h : shp l = 6) : ∃ y, l = [kDef, y] := by
  match l, h with
  | [w], h => simp only [shp] at h; split at h <;> first | (split at h <;> omega) | omega
  | [w, a], h =>
    simp only [shp] at h
    split at h
    · omega
    · split at h
      · rename_i e; subst e; exact ⟨a, rfl⟩
      · omega
  | [w, a, c], h => simp only [shp] at h; split at h <;> omega
/-- The error of a name that is there already, and of what lies too deep. -/
def defE (s : St) (x : By) (at_ : Nat) : Nat × Nat := begE s.rest.length (if hasDef s.defs x then (194, at_) else (0, 0)) at_
theorem lt_def (s : St) (x : By) (at_ : Nat) (hn : nameOk x = true) (hr : s.rest = []) : Lt (defA x at_ s) { s with top := ⟨6, at_, false, [], x, false, .nil, .nil⟩, rest := s.top :: s.rest } (defE s x at_) := by
  unfold defA defE
  rw [if_neg (by rw [hn, hr]; simp)]
  by_cases hd : hasDef s.defs x = true
  · rw [if_pos hd, if_pos hd]
    refine ⟨by decide, ?_⟩
    unfold begE
    split <;> rfl
  · rw [if_neg hd, if_neg hd]
    unfold St.begin begE
    by_cases h1 : 64 < s.rest.length + 1
    · rw [if_pos h1, if_pos h1]; exact ⟨by decide, rfl⟩
    · rw [if_neg h1, if_neg h1]; exact ⟨rfl, rfl⟩
theorem hasDef_take (l : List Df) (x : By) (k : Nat) (d : Df) (h : l[k]? = some d) : hasDef (l.take (k + 1)) x = (hasDef (l.take k) x || decide (bl d.name = x)) := by
  have : l.take (k + 1) = l.take k ++ [d] := by rw [List.take_add_one, h]; rfl
  rw [this]
  unfold hasDef
  rw [List.any_append]
  simp only [List.any_cons, List.any_nil, Bool.or_false]
  have e : (bl d.name == x) = decide (bl d.name = x) := by rw [Bool.eq_iff_iff, beq_iff_eq, decide_eq_true_iff]
  rw [e]
theorem str_eq2 (X Y : ByteArray) : (X.toList == Y.toList) = decide (bl X = bl Y) := by rw [tl_eq, ByteArray.toList_eq]; rfl
theorem str_eq3 (X Y : ByteArray) : (X == Y) = decide (bl X = bl Y) := by
  obtain ⟨a⟩ := X
  obtain ⟨b⟩ := Y
  show (a == b) = decide (a.toList = b.toList)
  rw [Bool.eq_iff_iff, beq_iff_eq, decide_eq_true_iff, Array.toList_inj]
set_option maxRecDepth 100000 in
set_option maxHeartbeats 8000000 in
theorem arm_6 (B q bx : Nat) (hq : q ≤ 16777212) (x : ByteArray) (hx : x.size ≤ 16777216) (at_ : Nat) (src : ByteArray) (s : St) (w : World) (h : RdN B q bx src s (0, 0) w) (hc : comment (bl x) = false) : (actMCap B q bx hq x hx at_ src s w h hc).1 6 := by
  unfold actMCap
  intro col dv cv WL HWL HA g c hc1 hc2 hl2 w1 LB HLB wa wc1 hw1 hw2 HG1 HS1 HB1 c1' K1 hK1 hu
  intros
  clear h hc
  obtain ⟨wy, rfl⟩ := shp6 hu
  have HE0 : Hid (action (bl x) at_ s = defA wy at_ s) := HA.out.trans (actW_def wy at_ s)
  have hl : LB.length = 2 := by rw [← HLB.out]; rfl
  obtain ⟨b, o, rfl, hok, hcs⟩ := strs_at HS1.out (by rw [← HLB.out]; simp)
  obtain ⟨X0, hX0⟩ : ∃ X, mkB kDef = X := ⟨_, rfl⟩
  have d0 : w1.cell? ⟨b, o, none⟩ = some (.string X0) := hcs 0 _ (by rw [← HLB.out, ← hX0]; rfl)
  have b0 : bl X0 = kDef := by rw [← hX0]; exact bl_mkB _
  obtain ⟨X1, hX1⟩ : ∃ X, mkB wy = X := ⟨_, rfl⟩
  have d1 : w1.cell? ⟨b, o + 1, none⟩ = some (.string X1) := hcs 1 _ (by rw [← HLB.out, ← hX1]; rfl)
  have b1 : bl X1 = wy := by rw [← hX1]; exact bl_mkB _
  rw [hl]
  have hbl := hok.2.1
  have hcol0 : freshC col w.heap.size b = 0 := hok.1
  clear hcs hok
  have q1 : (X0.toList == [105, 102]) = false := by rw [tl_eq, b0]; exact rfl
  have q2 : (X0.toList == [114, 97, 110, 103, 101]) = false := by rw [tl_eq, b0]; exact rfl
  have q3 : (X0.toList == [100, 101, 102, 105, 110, 101]) = true := by rw [tl_eq, b0]; exact rfl
  have hYs : X1.size ≤ 16777216 := by have h1 := HWL.out wy (by simp); rw [← b1] at h1; have h2 : (bl X1).length = X1.size := rfl; have h3 : (bl x).length = x.size := rfl; omega
  have NM := Lib.hid (fun w => nameR_calls X1 (by omega) w)
  rw [b1] at NM
  have HB1w : B ≤ w1.heap.size := HG1.out.hB
  clear hu hl
  cases hn : nameOk wy with
  | false =>
    rw [hn] at NM
    have HE : Hid (action (bl x) at_ s = .err 190 at_) := by unfold Hid; rw [HE0.out]; unfold defA; exact if_pos (.inl hn)
    have FC := Lib.hid (failR_calls B q bx 190 at_ src s (0, 0) _ _ _ _ _ HG1.out)
    clear HG1 HS1 HLB HWL HA c1' hw1 hw2 hc1 hc2 HE0
    go_wp2_with (go_at_call 34; refine (NM.out _).mono ?_; rintro e wn ⟨rfl, rfl⟩)
    refine FC.out.mono ?_
    rintro e w4 ⟨rfl, hb4, hs4, hg4⟩
    have HB4 := Lib.hid (HB1.out.trans hb4)
    have HG4 := Lib.hid hg4
    clear hb4 hs4 hg4 FC
    go_wp2_with fail
    first | go_end0 | skip
    rw [HE.out]
    exact ⟨rfl, HB4.out, s, (190, at_), ⟨_, _, _, _, HG4.out.more (by omega)⟩, by decide, rfl⟩
  | true =>
    rw [hn] at NM
    by_cases hr : s.rest = []
    · have ht0 : ¬ (0 : Int) < (s.rest.length : Int) := by rw [hr]; decide
      have ht0n : ¬ 0 < s.rest.length := by rw [hr]; decide
      have ht0d : decide (0 < s.rest.length) = false := decide_eq_false ht0n
      have HE : Hid (action (bl x) at_ s = defA wy at_ s) := HE0.out
      have HLT := Lib.hid (lt_def s wy at_ hn hr)
      obtain ⟨da, dc, rfl⟩ : ∃ a k, dv = .slice a s.defs.length k := by obtain ⟨cs, h, -⟩ := HG1.out.df; exact h.slice
      have hl3 : s.defs.length ≤ q := HG1.out.l3
      have HCB : Hid (freshC col w.heap.size b ≠ 1) := by unfold Hid; rw [hcol0]; decide
      clear HS1 HLB HWL HA c1' hw1 hw2 hc1 hc2 HE0 hr
      have hnn := hn
      clear hnn
      go_wp2_with (go_at_call 34; refine (NM.out _).mono ?_; rintro e wn ⟨rfl, rfl⟩)
      go_loopw [20] (fun v20 wr => ∃ k : Nat, v20 = .int .i64 (k : Nat) ∧ k ≤ s.defs.length ∧ Hid (RdR B q bx src s (if hasDef (s.defs.take k) wy then (194, at_) else (0, 0)) (freshC col w.heap.size) (.slice (some ⟨g, 0, none⟩) (s.rest.length + 1) c) (.slice da s.defs.length dc) cv wr) ∧ Hid (wr.cell? ⟨b, o + 1, none⟩ = some (.string X1)) ∧ Hid (Below B w wr)) (fun v _ => s.defs.length - (intOf v).toNat)
      case atStart => exact ⟨0, rfl, Nat.zero_le _, HG1.out, d1, HB1⟩
      case round =>
        obtain ⟨k, rfl, hk, HGr, HDr, HBr⟩ := hrel
        have dd := HDr.out
        have hbr := lt_of_cell dd
        have c3 : wr.cell? ⟨bx, 3, none⟩ = some (.slice da s.defs.length dc) := HGr.out.cells.2.2.2.1
        by_cases hlt : k < s.defs.length
        · have hlt' : (k : Int) < (s.defs.length : Int) := by omega
          have hk0 : (0 : Int) ≤ (k : Int) := by omega
          obtain ⟨d, hd⟩ : ∃ d, s.defs[k]? = some d := ⟨_, List.getElem?_eq_getElem hlt⟩
          have hTK := Lib.hid (hasDef_take s.defs wy k d hd)
          have hdc : ∃ g3, da = some ⟨g3, 0, none⟩ ∧ wr.cell? ⟨g3, k * 3, none⟩ = some (.string d.name) := by
            obtain ⟨cs3, ⟨h3, -⟩, hrow3⟩ := HGr.out.df
            obtain ⟨g3, c3', hv3, -, -, -, -, h5⟩ := ownsRow.elems h3 (by omega)
            injection hv3 with e1
            refine ⟨g3, e1, ?_⟩
            have hrw := DRowC.drow s.defs cs3 g3 0 hrow3 (fun j u hj => by rw [Nat.zero_add]; exact h5 j u hj)
            have := (DRow.at s.defs g3 0 k d hd hrw).1
            rwa [Nat.zero_add] at this
          obtain ⟨g3, rfl, dn⟩ := hdc
          have e2 := str_eq2 d.name X1
          have e3 := str_eq3 d.name X1
          rw [b1] at e2 e3
          by_cases hq2 : bl d.name = wy
          · rw [decide_eq_true hq2] at e2 e3
            have FC := Lib.hid (fun n => failR_calls B q bx 194 at_ src s _ _ _ _ _ _ (HGr.out.same ((Sl.drewN wr n).same (fun _ => True) _) (fun _ _ _ => trivial) (Nat.le_refl q)))
            have HT1 : Hid (lat (if hasDef (s.defs.take k) wy then (194, at_) else (0, 0)) 194 at_ = (if hasDef (s.defs.take (k + 1)) wy then (194, at_) else (0, 0))) := by
              unfold Hid
              rw [hTK.out, decide_eq_true hq2, Bool.or_true, if_pos rfl]
              split <;> rfl
            clear hq2 hTK hd HGr HDr
            go_upto_region 46 with (fail)
            go_quiet (fail)
            go_wp2_with fail
            refine (FC.out _).mono ?_
            rintro e w4 ⟨rfl, hb4, hs4, hg4⟩
            have HB4 := Lib.hid ((HBr.out.trans ((Sl.drewN wr _).below B)).trans hb4)
            have HD4 : Hid (w4.cell? ⟨b, o + 1, none⟩ = some (.string X1)) := (World.cell?_of_block (w := wr) (hs4.2 b hbr HCB.out).2).trans dd
            have HG4 := Lib.hid hg4
            clear hb4 hs4 hg4 FC
            go_wp2_with fail
            exact ⟨⟨k + 1, by go_num, by omega, by rw [← HT1.out]; exact HG4, HD4, HB4⟩, by simp [intOf]; omega⟩
          · rw [decide_eq_false hq2] at e2 e3
            have HT1 : Hid ((if hasDef (s.defs.take k) wy then (194, at_) else (0, 0)) = (if hasDef (s.defs.take (k + 1)) wy then (194, at_) else (0, 0))) := by
              unfold Hid
              rw [hTK.out, decide_eq_false hq2, Bool.or_false]
            have HG4 : Hid (RdR B q bx src s (if hasDef (s.defs.take (k + 1)) wy then (194, at_) else (0, 0)) (freshC col w.heap.size) (.slice (some ⟨g, 0, none⟩) (s.rest.length + 1) c) (.slice (some ⟨g3, 0, none⟩) s.defs.length dc) cv wr) := by unfold Hid; rw [← HT1.out]; exact HGr.out
            clear hq2 hTK hd HGr HT1
            go_upto_region 46 with (fail)
            go_quiet (fail)
            go_wp2_with fail
            exact ⟨⟨k + 1, by go_num, by omega, HG4.out.same ((Sl.drewN wr _).same (fun _ => True) _) (fun _ _ _ => trivial) (Nat.le_refl q), (Sl.drewN wr _).cell dd, HBr.out.trans ((Sl.drewN wr _).below B)⟩, by simp [intOf]; omega⟩
        · have hlt' : ¬ (k : Int) < (s.defs.length : Int) := by omega
          have hke : k = s.defs.length := by omega
          have HGe : Hid (RdR B q bx src s (if hasDef s.defs wy then (194, at_) else (0, 0)) (freshC col w.heap.size) (.slice (some ⟨g, 0, none⟩) (s.rest.length + 1) c) (.slice da s.defs.length dc) cv wr) := by unfold Hid; have := HGr.out; rwa [hke, List.take_length] at this
          have BG : Hid (Calls Tryz.prog 90 #[.pointer (some ⟨bx, 0, none⟩), .agg #[.int .i64 6, .int .u8 0, .int .i64 0, .string ⟨#[]⟩, .bool false, .slice none 0 0, .string ⟨#[]⟩, .slice none 0 0, .slice none 0 0, .bool false, .slice none 0 0, .string X1, .int .i64 (at_ : Nat), .slice none 0 0], .int .i64 (at_ : Nat)] wr _) :=
            beginM_calls B q bx at_ (by omega) src s _ ⟨6, at_, false, [], wy, false, .nil, .nil⟩ 6 0 0 (at_ : Nat) false X1 none 0 0 _ _ _ _ wr HGe.out (by rw [← hX1]; rfl) (Strs.nil _ _) rfl rfl
          clear HGe HGr hke hlt
          go_wp2_with (go_at_call 90; refine BG.out.mono ?_; rintro e w4 ⟨rfl, hb4, hr4⟩)
          first | go_end0 | skip
          rw [HE.out]
          exact ⟨rfl, HBr.out.trans hb4, _, _, hr4.more (by omega), HLT.out⟩
    · have ht0 : (0 : Int) < (s.rest.length : Int) := by have := List.length_pos_iff.2 hr; omega
      have HE : Hid (action (bl x) at_ s = .err 190 at_) := by unfold Hid; rw [HE0.out]; unfold defA; exact if_pos (.inr hr)
      have FC := Lib.hid (failR_calls B q bx 190 at_ src s (0, 0) _ _ _ _ _ HG1.out)
      clear HG1 HS1 HLB HWL HA c1' hw1 hw2 hc1 hc2 HE0
      go_wp2_with (go_at_call 34; refine (NM.out _).mono ?_; rintro e wn ⟨rfl, rfl⟩)
      refine FC.out.mono ?_
      rintro e w4 ⟨rfl, hb4, hs4, hg4⟩
      have HB4 := Lib.hid (HB1.out.trans hb4)
      have HG4 := Lib.hid hg4
      clear hb4 hs4 hg4 FC
      go_wp2_with fail
      first | go_end0 | skip
      rw [HE.out]
      exact ⟨rfl, HB4.out, s, (190, at_), ⟨_, _, _, _, HG4.out.more (by omega)⟩, by decide, rfl⟩
end Go.Proofs.YtdgcdjpjnhlihaaGreatDoor
set_option linter.unusedVariables false
set_option linter.unusedSimpArgs false
namespace Go.Proofs.YtdgcdjpjnhlihaaGreatDoor
open Go.RowKit Go.Shelf

/-- The frames' kinds: the last one is the main one. -/
def Kd : List Fr → Prop
  | [] => False
  | [f] => f.kind = 0
  | f :: r => (f.kind = 3 ∨ f.kind = 4 ∨ f.kind = 6) ∧ Kd r
theorem Kd.cons {f : Fr} {r : List Fr} (hk : f.kind = 3 ∨ f.kind = 4 ∨ f.kind = 6) (h : Kd r) : Kd (f :: r) := by
  cases r with
  | nil => exact h.elim
  | cons f2 r => exact ⟨hk, h⟩
theorem Kd.tail {f f2 : Fr} {r : List Fr} (h : Kd (f :: f2 :: r)) : (f.kind = 3 ∨ f.kind = 4 ∨ f.kind = 6) ∧ Kd (f2 :: r) := h
theorem Kd.turn {f f' : Fr} {r : List Fr} (h : Kd (f :: r)) (hk : f'.kind = f.kind) : Kd (f' :: r) := by
  cases r with
  | nil => exact hk.trans h
  | cons f2 r => exact ⟨by rw [hk]; exact h.1, h.2⟩
theorem Kd.iff {s : St} (h : Kd (s.top :: s.rest)) : (s.rest = [] ∨ s.top.kind = 6) ↔ (s.top.kind ≠ 3 ∧ s.top.kind ≠ 4) := by
  cases hr : s.rest with
  | nil =>
    rw [hr] at h
    have : s.top.kind = 0 := h
    rw [this]; simp
  | cons f r =>
    rw [hr] at h
    have := h.tail.1
    constructor
    · rintro (h | h)
      · cases h
      · omega
    · rintro ⟨h1, h2⟩
      right; omega
theorem count_kd {s t : St} {at_ : Nat} (h : s.count at_ = .ok t) (hk : Kd (s.top :: s.rest)) : Kd (t.top :: t.rest) := by
  unfold St.count at h
  split at h
  · cases h
  · injection h with h; subst h; exact hk
theorem put_kd {s : St} {h : Hd} {k e : Pt} (hk : Kd (s.top :: s.rest)) : Kd ((s.put h k e).top :: (s.put h k e).rest) := hk.turn (f' := (s.put h k e).top) rfl
theorem add_kd {s t : St} {h : Hd} {at_ : Nat} (ha : s.add h at_ = .ok t) (hk : Kd (s.top :: s.rest)) : Kd (t.top :: t.rest) := by
  unfold St.add at ha
  cases hc : s.count at_ with
  | err n p => rw [hc] at ha; cases ha
  | ok u =>
    rw [hc] at ha
    injection ha with ha
    subst ha
    exact put_kd (count_kd hc hk)
theorem begin_kd {s t : St} {f : Fr} {at_ : Nat} (ha : s.begin f at_ = .ok t) (hf : f.kind = 3 ∨ f.kind = 4 ∨ f.kind = 6) (hk : Kd (s.top :: s.rest)) : Kd (t.top :: t.rest) := by
  unfold St.begin at ha
  split at ha
  · cases ha
  · injection ha with ha; subst ha; exact Kd.cons hf hk
theorem bind_kd {s t : St} {f : Fr} {at_ : Nat} (h : (s.begin f at_).bind (fun s => s.count at_) = .ok t) (hf : f.kind = 3 ∨ f.kind = 4 ∨ f.kind = 6) (hk : Kd (s.top :: s.rest)) : Kd (t.top :: t.rest) := by
  cases hb : s.begin f at_ with
  | err n i => rw [hb] at h; cases h
  | ok u =>
    rw [hb] at h
    exact count_kd h (begin_kd hb hf hk)
theorem action_kd {x : By} {at_ : Nat} {s t : St} (ha : action x at_ s = .ok t) (hk : Kd (s.top :: s.rest)) : Kd (t.top :: t.rest) := by
  unfold action at ha
  split at ha
  · injection ha with ha; subst ha; exact hk
  · split at ha
    · -- one word
      unfold act1 at ha
      split at ha
      · unfold St.endA at ha
        split at ha
        · cases ha
        · rename_i f r hr
          rw [hr] at hk
          split at ha
          · injection ha with ha; subst ha; exact hk.tail.2
          · injection ha with ha; subst ha; exact put_kd (s := { s with top := f, rest := r }) hk.tail.2
      · split at ha
        · unfold St.elseA at ha
          split at ha
          · cases ha
          · injection ha with ha; subst ha; exact hk.turn (f' := { s.top with els := true, fst := s.top.kids, kids := .nil }) rfl
        · split at ha
          · cases ha
          · exact add_kd ha hk
    · unfold act2 at ha
      split at ha
      · split at ha
        · cases ha
        · rename_i p _
          exact bind_kd ha (by show (if _ then 3 else 4) = 3 ∨ (if _ then 3 else 4) = 4 ∨ _; split <;> simp) hk
      · split at ha
        · split at ha
          · cases ha
          · split at ha
            · cases ha
            · exact begin_kd ha (.inr (.inr rfl)) hk
        · cases ha
    · unfold act3 at ha
      split at ha
      · split at ha
        · cases ha
        · split at ha
          · cases ha
          · cases hc : s.count at_ with
            | err n i => rw [hc] at ha; cases ha
            | ok u =>
              rw [hc] at ha
              injection ha with ha
              subst ha
              exact put_kd (s := { u with calls := _ }) (show Kd (u.top :: u.rest) from count_kd hc hk)
      · cases ha
    · cases ha
theorem shp_le (l : List By) : shp l ≤ 7 := by
  unfold shp
  split
  · split <;> first | omega | (split <;> omega)
  · split <;> first | omega | (split <;> omega)
  · split <;> omega
  · omega
set_option maxRecDepth 100000 in
theorem arm_no (B q bx : Nat) (hq : q ≤ 16777212) (x : ByteArray) (hx : x.size ≤ 16777216) (at_ : Nat) (src : ByteArray) (s : St) (w : World) (h : RdN B q bx src s (0, 0) w) (hc : comment (bl x) = false) (u : Nat) : (actMCap B q bx hq x hx at_ src s w h hc).1 (u + 8) := by
  unfold actMCap
  intro col dv cv WL HWL HA g c hc1 hc2 hl2 w1 LB HLB wa wc1 hw1 hw2 HG1 HS1 HB1 c1' K1 hK1 hu
  have := shp_le WL
  omega
set_option maxRecDepth 100000 in
theorem actM_calls (B q bx : Nat) (hq : q ≤ 16777212) (x : ByteArray) (hx : x.size ≤ 16777216) (at_ : Nat) (src : ByteArray) (s : St) (w : World) (h : RdN B q bx src s (0, 0) w) (hk : Kd (s.top :: s.rest)) :
    Calls Tryz.prog 46 #[.pointer (some ⟨bx, 0, none⟩), .string x, .int .i64 (at_ : Nat)] w (RlP B (q + 3) bx src (action (bl x) at_ s) w) := by
  cases hc : comment (bl x) with
  | true => exact (actM_comment B q bx x hx at_ src s w h hc).mono fun e w' hp => hp.more (by omega)
  | false =>
    refine (actMCap B q bx hq x hx at_ src s w h hc).2 fun u => ?_
    match u with
    | 0 => exact arm_0 B q bx hq x hx at_ src s w h hc
    | 1 => exact arm_1 B q bx hq x hx at_ src s w h hc
    | 2 => exact arm_2 B q bx hq x hx at_ src s w h hc hk.iff
    | 3 => exact arm_3 B q bx hq x hx at_ src s w h hc
    | 4 => exact arm_4 B q bx hq x hx at_ src s w h hc
    | 5 => exact arm_5 B q bx hq x hx at_ src s w h hc
    | 6 => exact arm_6 B q bx hq x hx at_ src s w h hc
    | 7 => exact arm_7 B q bx hq x hx at_ src s w h hc
    | u + 8 => exact arm_no B q bx hq x hx at_ src s w h hc u
end Go.Proofs.YtdgcdjpjnhlihaaGreatDoor
set_option linter.unusedVariables false
set_option linter.unusedSimpArgs false
namespace Go.Proofs.YtdgcdjpjnhlihaaGreatDoor
open Go.RowKit Go.Shelf Go.Lib

/-- The first piece that is no code point, from a place on. -/
def fbF : Nat → Nat → By → Option Nat
  | 0, _, _ => none
  | f + 1, at_, l => if l = [] then none else if (pc l).2 then fbF f (at_ + (pc l).1) (l.drop (pc l).1) else some at_
theorem badPt_pc (S : By) (at_ : Nat) (hl : S.drop at_ ≠ []) : badPt S (at_, rn (S.drop at_)) = !(pc (S.drop at_)).2 := by
  have hr := rn_range (S.drop at_)
  have hc : clp (rn (S.drop at_)) = rn (S.drop at_) := by unfold clp; rw [if_pos hr]
  unfold badPt
  dsimp only
  rw [hc]
  cases hp : (pc (S.drop at_)).2 with
  | false =>
    rw [(pc_no _ hl hp).1]
    have : Lib.hasPrefix (S.drop at_) [239, 191, 189] = false := by
      rw [Bool.eq_false_iff]
      intro hx
      simp [Lib.hasPrefix] at hx
      obtain ⟨t, ht⟩ := hx
      have := (pc_enc 65533 ⟨by decide, by decide, by decide⟩ t).1
      rw [show encodeRune 65533 ++ t = [239, 191, 189] ++ t from rfl, ht] at this
      rw [this] at hp
      cases hp
    rw [this]; rfl
  | true =>
    obtain ⟨-, he⟩ := pc_yes _ hl hp
    by_cases h5 : rn (S.drop at_) = 65533
    · rw [h5] at he ⊢
      have : Lib.hasPrefix (S.drop at_) [239, 191, 189] = true := by
        simp [Lib.hasPrefix]
        refine ⟨(S.drop at_).drop (pc (S.drop at_)).1, ?_⟩
        have h2 := List.take_append_drop (pc (S.drop at_)).1 (S.drop at_)
        rw [← he] at h2
        exact h2
      rw [this]; rfl
    · rw [decide_eq_false h5]; rfl
theorem fb_find (S : By) : ∀ (f at_ : Nat), (S.drop at_).length ≤ f → fbF f at_ (S.drop at_) = ((ptsF f at_ (S.drop at_)).find? (badPt S)).map Prod.fst := by
  intro f
  induction f with
  | zero => intro at_ _; rfl
  | succ f ih =>
    intro at_ h
    by_cases hl : S.drop at_ = []
    · rw [hl, fbF, if_pos rfl, ptsF_nil]; rfl
    have hr := pc_range _ hl
    rw [fbF, if_neg hl, ptsF, if_neg hl, List.find?_cons, badPt_pc S at_ hl]
    cases hp : (pc (S.drop at_)).2 with
    | true =>
      rw [if_pos rfl]
      show _ = Option.map Prod.fst (List.find? _ _)
      rw [List.drop_drop]
      exact ih _ (by rw [← List.drop_drop, List.length_drop]; omega)
    | false => rfl
theorem fb_valid (S : By) : ∀ (f at_ : Nat), validD (S.drop at_) = true → fbF f at_ (S.drop at_) = none := by
  intro f
  induction f with
  | zero => intro at_ _; rfl
  | succ f ih =>
    intro at_ h
    rw [fbF]
    by_cases hl : S.drop at_ = []
    · rw [if_pos hl]
    rw [if_neg hl]
    rw [valid_pc _ hl] at h
    cases hp : (pc (S.drop at_)).2 with
    | true =>
      rw [hp, if_pos rfl, List.drop_drop] at h
      rw [if_pos rfl, List.drop_drop]
      exact ih _ h
    | false => rw [hp] at h; cases h
theorem fb_bad (S : By) : fbF S.length 0 S = badB S := by
  unfold badB
  split
  · rename_i h
    have := fb_valid S S.length 0 (by rwa [List.drop_zero])
    rwa [List.drop_zero] at this
  · have := fb_find S S.length 0 (by simp)
    rw [List.drop_zero] at this
    exact this
theorem fb_fuel : ∀ (f g at_ : Nat) (l : By), l.length ≤ f → l.length ≤ g → fbF f at_ l = fbF g at_ l := by
  intro f
  induction f with
  | zero =>
    intro g at_ l hf _
    have : l = [] := List.length_eq_zero_iff.1 (by omega)
    subst this
    cases g <;> simp [fbF]
  | succ f ih =>
    intro g at_ l hf hg
    by_cases hl : l = []
    · subst hl; cases g <;> simp [fbF]
    have hr := pc_range l hl
    cases g with
    | zero => have := List.length_pos_iff.2 hl; omega
    | succ g =>
      rw [fbF, fbF, if_neg hl, if_neg hl]
      split
      · exact ih g _ _ (by rw [List.length_drop]; omega) (by rw [List.length_drop]; omega)
      · rfl
/-- What stands in the loop over the pieces. -/
theorem fb_step (S : By) (k : Nat) (hl : S.drop k ≠ []) : fbF S.length k (S.drop k) = if (pc (S.drop k)).2 then fbF S.length (k + (pc (S.drop k)).1) (S.drop (k + (pc (S.drop k)).1)) else some k := by
  have hn : 0 < S.length := by
    have := List.length_pos_iff.2 hl
    rw [List.length_drop] at this; omega
  obtain ⟨n, hn⟩ : ∃ n, S.length = n + 1 := ⟨S.length - 1, by omega⟩
  have hr := pc_range _ hl
  rw [hn, fbF, if_neg hl, List.drop_drop]
  split
  · exact fb_fuel _ _ _ _ (by rw [← List.drop_drop, List.length_drop, List.length_drop]; omega) (by rw [List.length_drop]; omega)
  · rfl
/-- What stands in the reader's loop. -/
def LpI (x : By) (R : Rs St) (k : Nat) (s : St) (E : Nat × Nat) : Prop := (E = (0, 0) ∧ Kd (s.top :: s.rest) ∧ readF x.length (x.drop k) k s = R) ∨ (E.1 ≠ 0 ∧ R = .err E.1 E.2)
theorem readF_nil' (n k : Nat) (s : St) : readF n [] k s = .ok s := by cases n <;> rfl
theorem lp_end {x : By} {R : Rs St} {k : Nat} {s : St} (h : LpI x R k s (0, 0)) (hk : x.length ≤ k) : Lt R s (0, 0) := by
  rcases h with ⟨-, -, h⟩ | ⟨h, -⟩
  · rw [List.drop_of_length_le hk, readF_nil'] at h
    rw [← h]; exact ⟨rfl, rfl⟩
  · exact absurd rfl h
theorem lp_err {x : By} {R : Rs St} {k : Nat} {s : St} {E : Nat × Nat} (h : LpI x R k s E) (hE : E.1 ≠ 0) : Lt R s E := by
  rcases h with ⟨rfl, -⟩ | ⟨-, h⟩
  · exact absurd rfl hE
  · rw [h]; exact ⟨hE, rfl⟩
/-- What a text ahead leads to. -/
def txS (k : Nat) (a : By) (s : St) : St := if a = [] then s else ({ s with many := s.many + 1 } : St).put (hdText k a) .nil .nil
def txE (k : Nat) (a : By) (s : St) : Nat × Nat := if a = [] then (0, 0) else cntE s.many (0, 0) k
theorem lp_none {x : By} {R : Rs St} {k : Nat} {s : St} (h : LpI x R k s (0, 0)) (hk : k < x.length) (hc : cut2 123 (x.drop k) = none) : Lt R (txS k (x.drop k) s) (txE k (x.drop k) s) := by
  have hne : x.drop k ≠ [] := by intro e; have := congrArg List.length e; simp at this; omega
  rcases h with ⟨-, -, h⟩ | ⟨h, -⟩
  · rw [readF_step _ _ _ _ hne (by rw [List.length_drop]; omega), hc] at h
    rw [← h]
    unfold txS txE
    rw [if_neg hne, if_neg hne]
    exact lt_add s (hdText k (x.drop k)) k
  · exact absurd rfl h
/-- What is behind the text. -/
theorem lp_some {x : By} {R : Rs St} {k : Nat} {s : St} {a r : By} (h : LpI x R k s (0, 0)) (hk : k < x.length) (hc : cut2 123 (x.drop k) = some (a, r)) :
    ((txE k a s).1 ≠ 0 → Lt R (txS k a s) (txE k a s)) ∧ ((txE k a s).1 = 0 → txE k a s = (0, 0) ∧ Kd ((txS k a s).top :: (txS k a s).rest) ∧ R = match cut2 125 r with
      | none => .err 191 (k + a.length)
      | some (i, r2) => (action i (k + a.length) (txS k a s)).bind fun s => readF x.length r2 (k + a.length + i.length + 4) s) := by
  have hne : x.drop k ≠ [] := by intro e; have := congrArg List.length e; simp at this; omega
  rcases h with ⟨-, hkd, h⟩ | ⟨h, -⟩
  · rw [readF_step _ _ _ _ hne (by rw [List.length_drop]; omega), hc] at h
    dsimp only at h
    unfold txS txE
    by_cases ha : a = []
    · subst ha
      rw [if_pos rfl, if_pos rfl]
      rw [if_pos rfl] at h
      exact ⟨fun h => absurd rfl h, fun _ => ⟨rfl, hkd, h.symm⟩⟩
    · rw [if_neg ha, if_neg ha]
      rw [if_neg ha] at h
      have hl := lt_add s (hdText k a) k
      cases hA : s.add (hdText k a) k with
      | err n i =>
        rw [hA] at hl h
        obtain ⟨h1, h2⟩ := hl
        refine ⟨fun _ => ?_, fun h0 => absurd (by rw [h2] at h0; exact h0) h1⟩
        rw [← h]
        exact ⟨h1, h2⟩
      | ok t =>
        rw [hA] at hl h
        obtain ⟨h1, h2⟩ := hl
        refine ⟨fun h0 => absurd (by rw [h2]) h0, fun _ => ⟨h2, put_kd (s := { s with many := s.many + 1 }) hkd, ?_⟩⟩
        rw [← h, h1]; rfl
  · exact absurd rfl h
theorem lp_open {x r : By} {R : Rs St} {p : Nat} {s1 : St} (h : R = match cut2 125 r with
      | none => .err 191 p
      | some (i, r2) => (action i p s1).bind fun s => readF x.length r2 (p + i.length + 4) s) (hc : cut2 125 r = none) : Lt R s1 (191, p) := by
  rw [hc] at h
  rw [h]
  exact ⟨by decide, rfl⟩
theorem lp_act {x r i r2 : By} {R : Rs St} {p : Nat} {s1 s2 : St} {E2 : Nat × Nat} (h : R = match cut2 125 r with
      | none => .err 191 p
      | some (i, r2) => (action i p s1).bind fun s => readF x.length r2 (p + i.length + 4) s) (hc : cut2 125 r = some (i, r2)) (hk : Kd (s1.top :: s1.rest)) (hd : r2 = x.drop (p + i.length + 4)) (hl : Lt (action i p s1) s2 E2) : LpI x R (p + i.length + 4) s2 E2 := by
  rw [hc] at h
  dsimp only at h
  cases hA : action i p s1 with
  | err n j =>
    rw [hA] at hl h
    obtain ⟨h1, h2⟩ := hl
    right
    rw [h2]
    exact ⟨h1, h⟩
  | ok t =>
    rw [hA] at hl h
    obtain ⟨rfl, h2⟩ := hl
    left
    exact ⟨h2, action_kd hA hk, by rw [h, hd]; rfl⟩
/-- Where the pieces of a cut stand. -/
theorem cut_at {c : UInt8} {x a r : By} {k : Nat} (hk : k ≤ x.length) (h : cut2 c (x.drop k) = some (a, r)) : k + a.length + 2 ≤ x.length ∧ r = x.drop (k + a.length + 2) ∧ (x.drop k).take a.length = a ∧ findI c x k = ((k + a.length : Nat) : Int) := by
  obtain ⟨e, -, -⟩ := cut2_some c _ _ _ h
  have hl := congrArg List.length e
  rw [List.length_drop, List.length_append, List.length_cons, List.length_cons] at hl
  refine ⟨by omega, ?_, ?_, ?_⟩
  · rw [show k + a.length + 2 = k + (a.length + 2) by omega, ← List.drop_drop, e, ← List.drop_drop, List.drop_left]; simp
  · rw [e, List.take_left]
  · unfold findI; rw [h]
theorem cut_no {c : UInt8} {x : By} {k : Nat} (h : cut2 c (x.drop k) = none) : findI c x k = -1 := by unfold findI; rw [h]
/-- The error of a name that no template bears. -/
def nnE (defs : List Df) (E : Nat × Nat) (l : List (By × Nat)) : Nat × Nat := match noneAt defs l with
  | none => E
  | some a => lat E 195 a
theorem noneAt_snoc (defs : List Df) (c : By × Nat) : ∀ l : List (By × Nat), noneAt defs (l ++ [c]) = match noneAt defs l with
    | some a => some a
    | none => if hasDef defs c.1 then none else some c.2
  | [] => by simp [noneAt]
  | d :: l => by
    rw [List.cons_append, noneAt, noneAt]
    split
    · exact noneAt_snoc defs c l
    · rfl
theorem nn_step (defs : List Df) (E : Nat × Nat) (l : List (By × Nat)) (k : Nat) (c : By × Nat) (h : l[k]? = some c) :
    nnE defs E (l.take (k + 1)) = if hasDef defs c.1 then nnE defs E (l.take k) else lat (nnE defs E (l.take k)) 195 c.2 := by
  have e : l.take (k + 1) = l.take k ++ [c] := by rw [List.take_add_one, h]; rfl
  unfold nnE
  rw [e, noneAt_snoc]
  cases noneAt defs (l.take k) with
  | some a =>
    dsimp only
    split
    · rfl
    · unfold lat
      by_cases hE : E.1 = 0
      · rw [if_pos hE]; rfl
      · rw [if_neg hE, if_neg hE]
  | none =>
    dsimp only
    by_cases hd : hasDef defs c.1 = true
    · rw [if_pos hd, if_pos hd]
    · rw [if_neg hd, if_neg hd]
def stE (s : St) (n : Nat) (E : Nat × Nat) : Nat × Nat := if s.rest = [] then E else lat E 192 n
/-- What Parse answers at its end. -/
theorem fin_law {R : Rs St} {s : St} {E : Nat × Nat} (n : Nat) (h : Lt R s E) (E2 : Nat × Nat) (hE : E2 = nnE s.defs (stE s n E) s.calls) :
    (E2.1 ≠ 0 → R.bind (finish n) = .err E2.1 E2.2) ∧ (E2.1 = 0 → s.rest = [] ∧ R.bind (finish n) = .ok ⟨s.top.kids, s.defs⟩) := by
  subst hE
  cases R with
  | err e p =>
    obtain ⟨h1, rfl⟩ := h
    have e1 : stE s n (e, p) = (e, p) := by unfold stE; split; rfl; exact lat_ne h1 _ _
    have e2 : nnE s.defs (stE s n (e, p)) s.calls = (e, p) := by
      rw [e1]; unfold nnE
      split
      · rfl
      · exact lat_ne h1 _ _
    rw [e2]
    exact ⟨fun _ => rfl, fun h => absurd h h1⟩
  | ok t =>
    obtain ⟨rfl, rfl⟩ := h
    show (_ → finish n s = _) ∧ (_ → _ ∧ finish n s = _)
    unfold finish stE
    by_cases hr : s.rest = []
    · rw [if_pos hr, if_neg (fun h => h hr)]
      unfold nnE
      cases noneAt s.defs s.calls with
      | none => exact ⟨fun h => absurd rfl h, fun _ => ⟨hr, rfl⟩⟩
      | some a => exact ⟨fun _ => rfl, fun h => absurd (show (195 : Nat) = 0 from h) (by decide)⟩
    · rw [if_neg hr, if_pos hr]
      have e2 : nnE s.defs (lat (0, 0) 192 n) s.calls = (192, n) := by
        unfold nnE
        split
        · rfl
        · rfl
      rw [e2]
      exact ⟨fun _ => rfl, fun h => absurd (show (192 : Nat) = 0 from h) (by decide)⟩
/-- A reader at its start. -/
theorem RdR.init (B : Nat) (src : ByteArray) (w : World) (hB : B ≤ w.heap.size) :
    RdR B 0 (w.heap.size + 1) src St.start (0, 0) (fun b => if b = w.heap.size then 2 else 1) (.slice (some ⟨w.heap.size, 0, none⟩) 1 1) (.slice none 0 0) (.slice none 0 0)
      ((w.alloc (.cells #[.int .i64 0, .int .u8 0, .int .i64 0, .string ⟨#[]⟩, .bool false, .slice none 0 0, .string ⟨#[]⟩, .slice none 0 0, .slice none 0 0, .bool false, .slice none 0 0, .string ⟨#[]⟩, .int .i64 0, .slice none 0 0] 93)).alloc
        (.cells #[.string src, .slice (some ⟨w.heap.size, 0, none⟩) 1 1, .slice none 0 0, .slice none 0 0, .int .i64 0, .slice none 0 0, .int .i64 0, .int .i64 0] 96)) := by
  have h1 : ((w.alloc (.cells #[.int .i64 0, .int .u8 0, .int .i64 0, .string ⟨#[]⟩, .bool false, .slice none 0 0, .string ⟨#[]⟩, .slice none 0 0, .slice none 0 0, .bool false, .slice none 0 0, .string ⟨#[]⟩, .int .i64 0, .slice none 0 0] 93)).alloc
        (.cells #[.string src, .slice (some ⟨w.heap.size, 0, none⟩) 1 1, .slice none 0 0, .slice none 0 0, .int .i64 0, .slice none 0 0, .int .i64 0, .int .i64 0] 96)).heap[w.heap.size]? = some (.cells #[.int .i64 0, .int .u8 0, .int .i64 0, .string ⟨#[]⟩, .bool false, .slice none 0 0, .string ⟨#[]⟩, .slice none 0 0, .slice none 0 0, .bool false, .slice none 0 0, .string ⟨#[]⟩, .int .i64 0, .slice none 0 0] 93 (0, 0)) :=
    (Below.heap_alloc _ _ _ (by simp)).trans (heap_alloc_new w _)
  refine {
    bb := by omega
    cx := by rw [if_neg (by omega)]
    hx := ?_
    st := ⟨_, ⟨⟨?_, .inr ⟨w.heap.size, 1, _, rfl, hB, h1, Nat.le_refl _, by decide, rfl, rfl⟩⟩, fun g hg => ?_⟩, [], _, rfl, ⟨Nat.le_refl _, .slice none 0 0, .slice none 0 0, .slice none 0 0, rfl, Strs.nil _ _, Parts.nil _ _, Kids.nil _ _ _ _⟩, rfl⟩
    df := ⟨[], ⟨World.ownsRow_nil _ _ _ _, fun g h => by cases h⟩, rfl⟩
    cl := ⟨[], ⟨World.ownsRow_nil _ _ _ _, fun g h => by cases h⟩, rfl⟩
    l1 := Nat.le_refl _
    l2 := Nat.le_refl _
    l3 := Nat.le_refl _
    l4 := Nat.le_refl _
    hB := by simp; omega
    ol := fun b hb => if_neg (by omega) }
  · have := heap_alloc_new (w.alloc (.cells #[.int .i64 0, .int .u8 0, .int .i64 0, .string ⟨#[]⟩, .bool false, .slice none 0 0, .string ⟨#[]⟩, .slice none 0 0, .slice none 0 0, .bool false, .slice none 0 0, .string ⟨#[]⟩, .int .i64 0, .slice none 0 0] 93)) (.cells #[.string src, .slice (some ⟨w.heap.size, 0, none⟩) 1 1, .slice none 0 0, .slice none 0 0, .int .i64 0, .slice none 0 0, .int .i64 0, .int .i64 0] 96)
    rwa [show (w.alloc _).heap.size = w.heap.size + 1 by simp] at this
  · rfl
  · have : w.heap.size = g := by simpa [Value.ownBlock] using hg
    exact if_pos this.symm
end Go.Proofs.YtdgcdjpjnhlihaaGreatDoor
set_option linter.unusedVariables false
set_option linter.unusedSimpArgs false
namespace Go.Proofs.YtdgcdjpjnhlihaaGreatDoor
open Go.RowKit Go.Shelf Go.Lib
attribute [local go_sem ↓] Go.wp_at_zero Go.wp_at_succ

/-- What lacunaref19.Parse comes to. -/
def RefR (w : World) (r : Rs Tm) (e : Ending) (w' : World) : Prop := Below w.heap.size w w' ∧ match r with
  | .ok t => ∃ vm vd, e = .returned (.tuple #[.agg #[vm, vd], .int .i64 0, .int .i64 0]) ∧ Parts (fun b => w.heap.size ≤ b ∧ b < w'.heap.size) w' vm t.main ∧ Defs (fun b => w.heap.size ≤ b ∧ b < w'.heap.size) w' vd t.defs
  | .err n p => e = .returned (.tuple #[.agg #[.slice none 0 0, .slice none 0 0], .int .i64 (n : Nat), .int .i64 (p : Nat)])
theorem results_ref {fn : Func} {k i j : Tmp} {b : Nat} {x y : Value} {tmps : Array Value} {w : World} (h : fn.results = #[.cell k 25, .tmp i, .tmp j]) (hk : tmps.getD k undef = .pointer (some ⟨b, 0, none⟩)) (hb : w.heap[b]? = some (.cells #[x, y] 25 (0, 0))) :
    (results fn tmps).run Tryz.prog w = .ok (.tuple #[.agg #[x, y], tmps.getD i undef, tmps.getD j undef]) w := by
  have c := fun j => cell_of_heap' hb j
  have c0 : w.cell? ⟨b, 0, none⟩ = some x := c 0
  have c1 : w.cell? ⟨b, 1, none⟩ = some y := c 1
  have hk' : tmps[k]?.getD undef = .pointer (some ⟨b, 0, none⟩) := by rw [← hk]; simp
  clear c hb hk
  simp [results, h, hk', go_sem, c0, c1]
set_option maxRecDepth 100000 in
set_option maxHeartbeats 8000000 in
noncomputable def parCap (s : ByteArray) (hs : s.size ≤ 16384) (w : World) :
    PSigma fun P : Nat → Prop => PSigma fun Q : Nat → Prop => (∀ u, P u) → (∀ u, Q u) → Calls Tryz.prog 19 #[.string s] w (RefR w (parseB badB (bl s))) := by
  refine ⟨?P, ?Q, fun CAPP CAPQ => ?main⟩
  case main =>
    have hB0 : Hid (Below w.heap.size w (w.alloc (.cells #[.slice none 0 0, .slice none 0 0] 25))) := (Below.refl _ w).alloc (Nat.le_refl _) _
    have hR0 : Hid ((w.alloc (.cells #[.slice none 0 0, .slice none 0 0] 25)).heap[w.heap.size]? = some (.cells #[.slice none 0 0, .slice none 0 0] 25 (0, 0))) := heap_alloc_new w _
    have hZ0 : (w.alloc (.cells #[.slice none 0 0, .slice none 0 0] 25)).heap.size = w.heap.size + 1 := by simp
    have hl0 : ¬ (16384 : Int) < (s.size : Int) := by omega
    have HP : Hid (parseB badB (bl s) = match badB (bl s) with
        | some i => .err 197 i
        | none => (readF s.size (bl s) 0 St.start).bind (finish s.size)) := by
      unfold Hid parseB
      rw [if_neg (show ¬ 16384 < (bl s).length from by show ¬ 16384 < s.size; omega)]
      cases badB (bl s) <;> rfl
    have HFB : Hid (fbF s.size 0 (bl s) = badB (bl s)) := fb_bad (bl s)
    obtain ⟨BR, hBR⟩ : ∃ r, badB (bl s) = r := ⟨_, rfl⟩
    rw [hBR] at HP HFB
    clear hBR
    go_enter Tryz.func19, Tryz.ntmps19
    go_upto_region 3 with (fail)
    generalize hW : World.alloc w _ = W0 at *
    clear hW
    go_wp2_with fail
    go_loopw [5, 6, 7, 8] (fun v5 v6 v7 v8 wr => ∃ k : Nat, v5 = .int .i64 (k : Nat) ∧ k ≤ s.size ∧ Below W0.heap.size W0 wr ∧ Hid (fbF s.size k ((bl s).drop k) = BR)) (fun i _ _ _ _ => s.size - (intOf i).toNat)
    case atStart => exact ⟨0, rfl, Nat.zero_le _, Below.refl _ _, by unfold Hid; rw [List.drop_zero]; exact HFB.out⟩
    case round =>
      obtain ⟨k, rfl, hk, hb, HG⟩ := hrel
      have hsz := hb.size
      by_cases hlt : k < s.size
      · have hne : (bl s).drop k ≠ [] := by intro e; have := congrArg List.length e; rw [List.length_drop] at this; have h2 : (bl s).length = s.size := rfl; simp at this; omega
        have hr := pc_range _ hne
        have hrn := rn_range ((bl s).drop k)
        have HV := Lib.hid (fb_step (bl s) k hne)
        have hle : k + (pc ((bl s).drop k)).1 ≤ s.size := by have := hr.2.1; rw [List.length_drop] at this; have h2 : (bl s).length = s.size := rfl; omega
        have hr1 := hr.1
        have HPC : Hid (∀ w, Calls Tryz.prog 41 #[.string s, .int .i64 k] w fun e w' =>
            e = .returned (.tuple #[.int .i64 (pc ((bl s).drop k)).1, .int .i32 (rn ((bl s).drop k)), .bool (pc ((bl s).drop k)).2]) ∧ Below w.heap.size w w') := fun w => pieceR_calls s k hlt (by omega) w
        rw [show (bl s).length = s.size from rfl] at HV
        clear hne hr
        generalize rn ((bl s).drop k) = r at *
        generalize (pc ((bl s).drop k)).1 = q at *
        generalize (pc ((bl s).drop k)).2 = ok at *
        cases ok with
        | true =>
          have HG2 : Hid (fbF s.size (k + q) ((bl s).drop (k + q)) = BR) := by unfold Hid; rw [← HG.out, HV.out, if_pos rfl]
          clear HG HV
          go_wp2_with fail
          refine (HPC.out _).mono ?_
          rintro e w1 ⟨rfl, hb1⟩
          have hb1' := hb.trans (hb1.mono hsz)
          clear hb hb1 HPC
          go_wp2_with fail
          exact ⟨⟨k + q, by go_num, hle, hb1', HG2⟩, by simp [intOf]; omega⟩
        | false =>
          have HBK : Hid (BR = some k) := by unfold Hid; rw [← HG.out, HV.out, if_neg (by decide)]
          clear HG HV
          go_wp2_with fail
          refine (HPC.out _).mono ?_
          rintro e w1 ⟨rfl, hb1⟩
          have hb1' := hb.trans (hb1.mono hsz)
          have hR1 := (hb1'.block w.heap.size (by omega)).trans hR0.out
          have r0 : w1.cell? ⟨w.heap.size, 0, none⟩ = some (.slice none 0 0) := by rw [cell_of_heap' hR1]; rfl
          have r1 : w1.cell? ⟨w.heap.size, 1, none⟩ = some (.slice none 0 0) := by rw [cell_of_heap' hR1]; rfl
          have rz := frozen_cells hR1
          have HR1 := Lib.hid hR1
          have HB1 := Lib.hid (hB0.out.trans (hb1'.mono (by omega)))
          clear hb hb1 HPC hb1' hR1
          go_wp2_with fail
          refine bodyPost_ret (results_ref rfl rfl (two_cells HR1.out rfl _ _)) rfl ?_
          rw [HP.out, HBK.out]
          exact ⟨(HB1.out.setCell (p := ⟨w.heap.size, 0, none⟩) (Nat.le_refl _) _).setCell (p := ⟨w.heap.size, 1, none⟩) (Nat.le_refl _) _, rfl⟩
      · have hlt' : ¬ (k : Int) < (s.size : Int) := by omega
        have HBN : Hid (BR = none) := by
          unfold Hid
          rw [← HG.out, List.drop_of_length_le (show (bl s).length ≤ k from by show s.size ≤ k; omega)]
          cases s.size <;> simp [fbF]
        have HPR : Hid (parseB badB (bl s) = (readF s.size (bl s) 0 St.start).bind (finish s.size)) := by unfold Hid; rw [HP.out, HBN.out]
        have HI := Lib.hid (RdR.init W0.heap.size s wr hsz)
        have HBr := Lib.hid (((Below.refl W0.heap.size wr).alloc hsz (.cells #[.int .i64 0, .int .u8 0, .int .i64 0, .string ⟨#[]⟩, .bool false, .slice none 0 0, .string ⟨#[]⟩, .slice none 0 0, .slice none 0 0, .bool false, .slice none 0 0, .string ⟨#[]⟩, .int .i64 0, .slice none 0 0] 93)).alloc (by simp; omega) (.cells #[.string s, .slice (some ⟨wr.heap.size, 0, none⟩) 1 1, .slice none 0 0, .slice none 0 0, .int .i64 0, .slice none 0 0, .int .i64 0, .int .i64 0] 96))
        have HB := Lib.hid hb
        clear hlt HG HP HFB HBN hb
        go_upto_region 10 with (fail)
        generalize hW1 : World.alloc (World.alloc wr _) _ = W1 at *
        generalize hBX : wr.heap.size + 1 = bx at *
        have HN : Hid (RdN W0.heap.size 0 bx s St.start (0, 0) W1) := ⟨_, _, _, _, HI.out⟩
        have HBW := Lib.hid (HB.out.trans HBr.out)
        clear hW1 hBX HI HBr HB
        obtain ⟨R, hR⟩ : ∃ R, readF s.size (bl s) 0 St.start = R := ⟨_, rfl⟩
        rw [hR] at HPR
        have HLP : Hid (LpI (bl s) R 0 St.start (0, 0)) := .inl ⟨rfl, rfl, by rw [List.drop_zero]; exact hR⟩
        clear hR
        go_upto_block 2 with (fail)
        go_cut [10, 11, 12, 13] (fun v10 v11 v12 v13 wx => Hid (∃ s' E', RdN W0.heap.size 100000 bx s s' E' wx ∧ Lt R s' E' ∧ Below W0.heap.size W0 wx))
        case first =>
          rename_i K2 Q1 K1 h1 K0 h0 J0 J1 hJ0 hJ1
          clear h1 K1 Q1
          obtain ⟨u, hu⟩ : ∃ u : Nat, u = 0 := ⟨0, rfl⟩
          have HC := CAPP u
          clear hu CAPP CAPQ K2 BR
          revert W0 hB0 hR0 hZ0 hl0 wr u3 u4 u6 u7 u8 u21 u22 u23 u24 u25 u26 u27 u28 u29 u30 u31 u32 u33 u34 u35 u36 u37 u38 k hk hsz hlt' W1 bx HN HBW R HPR HLP K0 h0 J0 J1 hJ0 hJ1
          exact HC
        case rest =>
          rename_i K2 Q1 K1 h1 K0 h0
          clear h1 K1 Q1
          obtain ⟨u, hu⟩ : ∃ u : Nat, u = 0 := ⟨0, rfl⟩
          have HC := CAPQ u
          clear hu CAPP CAPQ K2 BR HN HBW HLP W1
          revert W0 hB0 hR0 hZ0 hl0 wr u3 u4 u6 u7 u8 u21 u22 u23 u24 u25 u26 u27 u28 u29 u30 u31 u32 u33 u34 u35 u36 u37 u38 k hk hsz hlt' bx R HPR K0 h0 wc u10 u11 u12 u13 u44 u45 u46 u47 u48 u49 u50 u51 u52 u53 u54 u55 u56 u57 u58 u59 u60 u61 u62 u63 u64 u65 u66 u67 u68 u69 u70 u71 u72 u73 u74 u75 u76 u77 u78 u79 u80 u81 u82 u83 u84 u85 u86 u87 u88 u89 u90 u91 u92 u93 u94 u95 u96 u97 u98 u99 u100 u101 u102 u103 u104 u105 hcut
          exact HC
end Go.Proofs.YtdgcdjpjnhlihaaGreatDoor
