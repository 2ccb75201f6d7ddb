/-
  Contracts of lacunaref19.named and text. The condition: no list is longer than 2 to the 47th, no text than 2 to the 24th.
-/
/-
  The contract of lacunaref19.way. The condition: a path's word takes at most 2 to the 24th bytes.
-/
/-
  The contract of lacunaref19.form. The condition: no text is longer than 2 to the 24th bytes, no more than 2 to the 24th parts.
-/
import Derived.Test.YtdgcdjpjnhlihaaGreatDoorMgTq4
import Derived.Test.YtdgcdjpjnhlihaaGreatDoorMgTq1
import Derived.Test.YtdgcdjpjnhlihaaGreatDoorMgTfm
import Derived.Test.YtdgcdjpjnhlihaaGreatDoorMgTrq
import Derived.Test.YtdgcdjpjnhlihaaGreatDoorMgTg1
import Derived.Test.YtdgcdjpjnhlihaaGreatDoorMgLibv
import Derived.Deep.DeepCutAuto
set_option linter.unusedVariables false
set_option linter.unusedSimpArgs false
namespace Go.Proofs.YtdgcdjpjnhlihaaGreatDoor
open Go.RowKit Go.Shelf
attribute [local go_sem ↓] Go.wp_at_zero Go.wp_at_succ

set_option maxRecDepth 100000 in
set_option maxHeartbeats 4000000 in
theorem namedR_calls (ok : Nat → Prop) (l : List ByteArray) (hl : l.length ≤ 140737488351232) (hs : ∀ s ∈ l, s.size ≤ 140737488351232) (v : Value) (w : World) (h : Strs ok w v l) :
    Calls Tryz.prog 62 #[v] w fun e w' => e = .returned (.bool (namesOk (bls l))) ∧ w = w' := by
  obtain ⟨a, c, rfl, h1, h2, h3⟩ := h
  have H3 := Lib.hid h3
  have HS := Lib.hid hs
  obtain ⟨R, hR⟩ : ∃ R, namesOk (bls l) = R := ⟨_, rfl⟩
  rw [hR]
  clear h3 hs
  go_enter Tryz.func62, Tryz.ntmps62
  go_wp2_with fail
  go_loopw [3] (fun i wr => ∃ k : Nat, i = .int .i64 (k : Nat) ∧ k ≤ l.length ∧ wr = w ∧ Hid (namesOk (bls (l.drop k)) = R)) (fun i _ => l.length - (intOf i).toNat)
  case atStart => exact ⟨0, rfl, Nat.zero_le _, rfl, hR⟩
  case round =>
    obtain ⟨k, rfl, hk, rfl, HK⟩ := hrel
    by_cases hlt : k < l.length
    · have hlt' : (k : Int) < (l.length : Int) := by omega
      have hk0 : (0 : Int) ≤ (k : Int) := by omega
      obtain ⟨s, hsk⟩ : ∃ s, l[k]? = some s := ⟨_, List.getElem?_eq_getElem hlt⟩
      obtain ⟨b, o, rfl, -, hcells⟩ := H3.out (by intro e; rw [e] at hlt; simp at hlt)
      have pc := hcells k s hsk
      have LE := Lib.hid (lettersR_calls s (HS.out s (List.mem_of_getElem? hsk)) wr)
      have HD : Hid (namesOk (bls (l.drop k)) = (lets (bl s) && namesOk (bls (l.drop (k + 1))))) := by
        have hlt := (List.getElem?_eq_some_iff.1 hsk).1
        unfold Hid
        rw [List.drop_eq_getElem_cons hlt, (List.getElem?_eq_some_iff.1 hsk).2]; rfl
      clear hcells hsk
      cases hv : lets (bl s) with
      | true =>
        have HK2 : Hid (namesOk (bls (l.drop (k + 1))) = R) := by unfold Hid; rw [← HK.out, HD.out, hv]; rfl
        rw [hv] at LE
        clear hv
        go_wp2_with fail
        refine LE.out.mono ?_
        rintro e w' ⟨rfl, rfl⟩
        go_wp2_with fail
        exact ⟨⟨k + 1, by go_num, by omega, by first | trivial | rfl, HK2⟩, by simp [intOf]; omega⟩
      | false =>
        have HK2 : Hid (false = R) := by unfold Hid; rw [← HK.out, HD.out, hv]; rfl
        rw [hv] at LE
        clear hv
        go_wp2_with fail
        refine LE.out.mono ?_
        rintro e w' ⟨rfl, rfl⟩
        go_wp2_with fail
        go_ret
        exact ⟨ret_bool HK2.out, by first | trivial | rfl⟩
    · have hlt' : ¬ (k : Int) < (l.length : Int) := by omega
      have HK2 : Hid (true = R) := by unfold Hid; rw [← HK.out, List.drop_of_length_le (by omega)]; rfl
      clear hlt
      go_wp2_with fail
      go_ret
      exact ⟨ret_bool HK2.out, by first | trivial | rfl⟩
theorem find_none (c : UInt8) (l : By) : (findI c l 0 < 0) ↔ cut2 c l = none := by
  unfold findI
  rw [List.drop_zero]
  cases cut2 c l with
  | none => simp
  | some x => simp
set_option maxRecDepth 100000 in
set_option maxHeartbeats 4000000 in
theorem textR_calls (s : ByteArray) (last : Bool) (hs : s.size ≤ 16777216) (w : World) :
    Calls Tryz.prog 63 #[.string s, .bool last] w fun e w' => e = .returned (.bool (mayB (bl s) last)) ∧ Below w.heap.size w w' := by
  have VA := Lib.hid (validR_calls s hs w)
  have FI := Lib.hid (fun W => findB_calls s 0 hs (Nat.zero_le _) W)
  have HM : Hid (mayB (bl s) last = (!(bl s).isEmpty && Lib.validD (bl s) && (cut2 123 (bl s)).isNone && (last || decide ((bl s).getLast? ≠ some 123)))) := rfl
  have HF := Lib.hid (find_none 123 (bl s))
  obtain ⟨R, hR⟩ : ∃ R, mayB (bl s) last = R := ⟨_, rfl⟩
  rw [hR] at HM ⊢
  have hsb : s.data.toList = bl s := rfl
  rw [hsb] at VA
  by_cases h0 : s.size = 0
  · have he : s.toList.isEmpty = true := by rw [size0 s h0, ByteArray.toList_eq]; rfl
    have HF0 : Hid (false = R) := by unfold Hid; rw [HM.out, size0 s h0]; rfl
    clear h0 HM HF
    generalize Lib.validD (bl s) = vd at *
    go_enter Tryz.func63, Tryz.ntmps63
    go_wp2_with fail
    refine VA.out.mono ?_
    rintro e w1 ⟨rfl, hb1⟩
    go_wp2_with fail
    go_ret
    exact ⟨ret_bool HF0.out, hb1⟩
  have he := ne_str s (by omega)
  have hne : (bl s).isEmpty = false := by rw [← he, ByteArray.toList_eq]; rfl
  have HM2 : Hid (R = (Lib.validD (bl s) && (cut2 123 (bl s)).isNone && (last || decide ((bl s).getLast? ≠ some 123)))) := by unfold Hid; rw [HM.out, hne]; rfl
  clear hne HM
  cases hv : Lib.validD (bl s) with
  | false =>
    have HF0 : Hid (false = R) := by unfold Hid; rw [HM2.out, hv]; rfl
    rw [hv] at VA
    clear hv HM2 h0
    go_enter Tryz.func63, Tryz.ntmps63
    go_wp2_with fail
    refine VA.out.mono ?_
    rintro e w1 ⟨rfl, hb1⟩
    go_wp2_with fail
    go_ret
    exact ⟨ret_bool HF0.out, hb1⟩
  | true =>
  rw [hv] at VA
  obtain ⟨f, hf⟩ : ∃ f, findI 123 (bl s) 0 = f := ⟨_, rfl⟩
  rw [hf] at FI HF
  by_cases hc : cut2 123 (bl s) = none
  · have hf0 : f < 0 := HF.out.2 hc
    have HM3 : Hid (R = (last || decide ((bl s).getLast? ≠ some 123))) := by unfold Hid; rw [HM2.out, hv, hc]; rfl
    clear hv hc HM2 hf HF
    cases last with
    | true =>
      have HF0 : Hid (true = R) := by unfold Hid; rw [HM3.out]; rfl
      clear HM3 h0
      go_enter Tryz.func63, Tryz.ntmps63
      go_wp2_with fail
      refine VA.out.mono ?_
      rintro e w1 ⟨rfl, hb1⟩
      go_wp2_with fail
      refine (FI.out _).mono ?_
      rintro e w2 ⟨rfl, rfl⟩
      go_wp2_with fail
      go_ret
      exact ⟨ret_bool HF0.out, hb1⟩
    | false =>
      have hlt : s.size - 1 < s.size := by omega
      have hi : (s.size : Int) - 1 = ((s.size - 1 : Nat) : Int) := by omega
      obtain ⟨ch, hch⟩ : ∃ ch, s[s.size - 1] = ch := ⟨_, rfl⟩
      have HF0 : Hid (((ch.toNat : Int) != 123) = R) := by
        unfold Hid; rw [HM3.out, Bool.false_or]
        have hgl : (bl s).getLast? = some ch := by
          rw [List.getLast?_eq_getElem?, ← hch]
          have q : (bl s).length = s.size := rfl
          rw [q, List.getElem?_eq_getElem (by omega)]
          rfl
        rw [hgl, Bool.eq_iff_iff]
        simp
        constructor
        · intro h e; rw [e] at h; exact h rfl
        · intro h e; exact h (UInt8.toNat_inj.1 (show ch.toNat = 123 by omega))
      clear HM3
      go_enter Tryz.func63, Tryz.ntmps63
      go_wp2_with fail
      refine VA.out.mono ?_
      rintro e w1 ⟨rfl, hb1⟩
      go_wp2_with fail
      refine (FI.out _).mono ?_
      rintro e w2 ⟨rfl, rfl⟩
      go_wp2_with fail
      go_ret
      exact ⟨ret_bool HF0.out, hb1⟩
  · have hf0 : ¬ f < 0 := fun h => hc (HF.out.1 h)
    have HF0 : Hid (false = R) := by
      unfold Hid; rw [HM2.out, hv]
      cases hq : cut2 123 (bl s) with
      | none => exact absurd hq hc
      | some z => rfl
    clear hv hc HM2 hf HF h0
    go_enter Tryz.func63, Tryz.ntmps63
    go_wp2_with fail
    refine VA.out.mono ?_
    rintro e w1 ⟨rfl, hb1⟩
    go_wp2_with fail
    refine (FI.out _).mono ?_
    rintro e w2 ⟨rfl, rfl⟩
    go_wp2_with fail
    go_ret
    exact ⟨ret_bool HF0.out, hb1⟩
end Go.Proofs.YtdgcdjpjnhlihaaGreatDoor
set_option linter.unusedVariables false
set_option linter.unusedSimpArgs false
namespace Go.Proofs.YtdgcdjpjnhlihaaGreatDoor
open Go.RowKit Go.Shelf
attribute [local go_sem ↓] Go.wp_at_zero Go.wp_at_succ

theorem ba_app (a b : ByteArray) : bl (a ++ b) = bl a ++ bl b := by unfold bl; simp
set_option maxRecDepth 100000 in
set_option maxHeartbeats 40000000 in
theorem wayR_calls (root : Bool) (l : List ByteArray) (hl : 1 + l.length + nsz l ≤ 16777216) (v : Value) (w : World) (h : Strs (· < w.heap.size) w v l) :
    Calls Tryz.prog 105 #[.agg #[.bool root, v]] w fun e w' => e = .returned (.string (mkB (wayS root (bls l)))) ∧ Below w.heap.size w w' := by
  obtain ⟨a, c, rfl, h1, h2, h3⟩ := h
  have HB0 : Hid (Below w.heap.size w (w.alloc (.cells #[.bool root, .slice a l.length c] 56))) := (Below.refl w.heap.size w).alloc (Nat.le_refl _) _
  have c0 : (w.alloc (.cells #[.bool root, .slice a l.length c] 56)).cell? ⟨w.heap.size, 0, none⟩ = some (.bool root) := by rw [cell_of_heap' (heap_alloc_new w _)]; rfl
  have c1 : (w.alloc (.cells #[.bool root, .slice a l.length c] 56)).cell? ⟨w.heap.size, 1, none⟩ = some (.slice a l.length c) := by rw [cell_of_heap' (heap_alloc_new w _)]; rfl
  have H3 : Hid (∀ k n, l[k]? = some n → ∃ b o, a = some ⟨b, o, none⟩ ∧ (w.alloc (.cells #[.bool root, .slice a l.length c] 56)).cell? ⟨b, o + k, none⟩ = some (.string n)) := fun k n hk => by
    obtain ⟨b, o, q1, q2, q3⟩ := h3 (by intro e; rw [e] at hk; simp at hk)
    exact ⟨b, o, q1, (HB0.out.cell (p := ⟨b, _, none⟩) q2).trans (q3 k n hk)⟩
  obtain ⟨F, hF⟩ : ∃ F, (if root then [36] else []) ++ dots (bls l) = F := ⟨_, rfl⟩
  have hFl : F.length ≤ 16777216 := by
    rw [← hF, List.length_append, dots_wt]
    split <;> simp <;> omega
  have HFS : Hid (wayS root (bls l) = if F = [] then [46] else F) := by
    unfold Hid wayS
    rw [← hF]
    cases root with
    | true => simp
    | false => cases l with
      | nil => rfl
      | cons x l => simp [bls, dots]
  have HF := Lib.hid hF
  clear hF h3
  go_enter Tryz.func105, Tryz.ntmps105
  cases root with
  | true =>
    go_wp2_with fail
    generalize hW0 : World.alloc w _ = w0 at *
    clear hW0
    go_loopw [3, 4] (fun v3 v4 wr => ∃ (s : ByteArray) (k : Nat), v3 = .string s ∧ v4 = .int .i64 (k : Nat) ∧ k ≤ l.length ∧ wr = w0 ∧ s.size ≤ 16777216 ∧ Hid (bl s ++ dots (bls (l.drop k)) = F)) (fun _ i _ => l.length - (intOf i).toNat)
    case atStart => exact ⟨⟨#[36]⟩, 0, rfl, rfl, Nat.zero_le _, rfl, by decide, HF.out⟩
    case round =>
      obtain ⟨s, k, rfl, rfl, hk, rfl, hsz, HK⟩ := hrel
      by_cases hlt : k < l.length
      · have hlt' : (k : Int) < (l.length : Int) := by omega
        have hk0 : (0 : Int) ≤ (k : Int) := by omega
        obtain ⟨n, hkn⟩ : ∃ n, l[k]? = some n := ⟨_, List.getElem?_eq_getElem hlt⟩
        obtain ⟨b, o, rfl, pc⟩ := H3.out k n hkn
        have HK2 : Hid (bl (s ++ ⟨#[46]⟩ ++ n) ++ dots (bls (l.drop (k + 1))) = F) := by
          have hlt := (List.getElem?_eq_some_iff.1 hkn).1
          have := HK.out
          rw [List.drop_eq_getElem_cons hlt, (List.getElem?_eq_some_iff.1 hkn).2] at this
          unfold Hid
          rw [← this, ba_app, ba_app]
          show _ = bl s ++ (46 :: bl n ++ dots (bls (l.drop (k + 1))))
          have : bl (⟨#[46]⟩ : ByteArray) = [46] := rfl
          rw [this]
          simp
        have hs2 : (s ++ ⟨#[46]⟩ ++ n).size ≤ 16777216 := by
          have := congrArg List.length HK2.out
          rw [List.length_append] at this
          have q : (bl (s ++ ⟨#[46]⟩ ++ n)).length = (s ++ ⟨#[46]⟩ ++ n).size := rfl
          omega
        have hs1 : (s ++ ⟨#[46]⟩ ++ n).size = s.size + 1 + n.size := by simp; rfl
        have hs3 : (s ++ ⟨#[46]⟩).size = s.size + 1 := by simp; rfl
        have h46 : (⟨#[46]⟩ : ByteArray).size = 1 := rfl
        clear hkn
        go_wp2_with fail
        exact ⟨⟨_, k + 1, by rfl, by go_num, by omega, by first | trivial | rfl, hs2, HK2⟩, by simp [intOf]; omega⟩
      · have hlt' : ¬ (k : Int) < (l.length : Int) := by omega
        have HE : Hid (bl s = F) := by
          have := HK.out
          rw [List.drop_of_length_le (by omega)] at this
          unfold Hid; rw [← this]; simp [bls, dots]
        clear hlt
        by_cases h0 : s.size = 0
        · have he : s.toList.isEmpty = true := by rw [size0 s h0, ByteArray.toList_eq]; rfl
          have HR : Hid (mkB (wayS true (bls l)) = ⟨#[46]⟩) := by
            unfold Hid; rw [HFS.out, ← HE.out, size0 s h0]; rfl
          clear h0
          go_wp2_with fail
          go_ret
          exact ⟨by rw [HR.out]; rfl, HB0.out⟩
        · have he := ne_str s (by omega)
          have HR : Hid (mkB (wayS true (bls l)) = s) := by
            unfold Hid; rw [HFS.out, ← HE.out, if_neg (by intro e; have q : (bl s).length = s.size := rfl; rw [e] at q; simp at q; omega)]
            exact mkB_bl s
          clear h0
          go_wp2_with fail
          go_ret
          exact ⟨by rw [HR.out]; rfl, HB0.out⟩
  | false =>
    go_wp2_with fail
    generalize hW0 : World.alloc w _ = w0 at *
    clear hW0
    go_loopw [3, 4] (fun v3 v4 wr => ∃ (s : ByteArray) (k : Nat), v3 = .string s ∧ v4 = .int .i64 (k : Nat) ∧ k ≤ l.length ∧ wr = w0 ∧ s.size ≤ 16777216 ∧ Hid (bl s ++ dots (bls (l.drop k)) = F)) (fun _ i _ => l.length - (intOf i).toNat)
    case atStart => exact ⟨⟨#[]⟩, 0, rfl, rfl, Nat.zero_le _, rfl, by decide, HF.out⟩
    case round =>
      obtain ⟨s, k, rfl, rfl, hk, rfl, hsz, HK⟩ := hrel
      by_cases hlt : k < l.length
      · have hlt' : (k : Int) < (l.length : Int) := by omega
        have hk0 : (0 : Int) ≤ (k : Int) := by omega
        obtain ⟨n, hkn⟩ : ∃ n, l[k]? = some n := ⟨_, List.getElem?_eq_getElem hlt⟩
        obtain ⟨b, o, rfl, pc⟩ := H3.out k n hkn
        have HK2 : Hid (bl (s ++ ⟨#[46]⟩ ++ n) ++ dots (bls (l.drop (k + 1))) = F) := by
          have hlt := (List.getElem?_eq_some_iff.1 hkn).1
          have := HK.out
          rw [List.drop_eq_getElem_cons hlt, (List.getElem?_eq_some_iff.1 hkn).2] at this
          unfold Hid
          rw [← this, ba_app, ba_app]
          show _ = bl s ++ (46 :: bl n ++ dots (bls (l.drop (k + 1))))
          have : bl (⟨#[46]⟩ : ByteArray) = [46] := rfl
          rw [this]
          simp
        have hs2 : (s ++ ⟨#[46]⟩ ++ n).size ≤ 16777216 := by
          have := congrArg List.length HK2.out
          rw [List.length_append] at this
          have q : (bl (s ++ ⟨#[46]⟩ ++ n)).length = (s ++ ⟨#[46]⟩ ++ n).size := rfl
          omega
        have hs1 : (s ++ ⟨#[46]⟩ ++ n).size = s.size + 1 + n.size := by simp; rfl
        have hs3 : (s ++ ⟨#[46]⟩).size = s.size + 1 := by simp; rfl
        have h46 : (⟨#[46]⟩ : ByteArray).size = 1 := rfl
        clear hkn
        go_wp2_with fail
        exact ⟨⟨_, k + 1, by rfl, by go_num, by omega, by first | trivial | rfl, hs2, HK2⟩, by simp [intOf]; omega⟩
      · have hlt' : ¬ (k : Int) < (l.length : Int) := by omega
        have HE : Hid (bl s = F) := by
          have := HK.out
          rw [List.drop_of_length_le (by omega)] at this
          unfold Hid; rw [← this]; simp [bls, dots]
        clear hlt
        by_cases h0 : s.size = 0
        · have he : s.toList.isEmpty = true := by rw [size0 s h0, ByteArray.toList_eq]; rfl
          have HR : Hid (mkB (wayS false (bls l)) = ⟨#[46]⟩) := by
            unfold Hid; rw [HFS.out, ← HE.out, size0 s h0]; rfl
          clear h0
          go_wp2_with fail
          go_ret
          exact ⟨by rw [HR.out]; rfl, HB0.out⟩
        · have he := ne_str s (by omega)
          have HR : Hid (mkB (wayS false (bls l)) = s) := by
            unfold Hid; rw [HFS.out, ← HE.out, if_neg (by intro e; have q : (bl s).length = s.size := rfl; rw [e] at q; simp at q; omega)]
            exact mkB_bl s
          clear h0
          go_wp2_with fail
          go_ret
          exact ⟨by rw [HR.out]; rfl, HB0.out⟩
end Go.Proofs.YtdgcdjpjnhlihaaGreatDoor
set_option linter.unusedVariables false
set_option linter.unusedSimpArgs false
namespace Go.Proofs.YtdgcdjpjnhlihaaGreatDoor
open Go.RowKit Go.Shelf
attribute [local go_sem ↓] Go.wp_at_zero Go.wp_at_succ

def FmP (free : Bool) (x : Pt) (w : World) (e : Ending) (w' : World) : Prop := e = .returned (.bool (x.form free)) ∧ Below w.heap.size w w'
def FmSaid (n : Nat) : Prop := ∀ (x : Pt), x.cnt < n → ∀ (free : Bool) (v : Value) (w : World), x.sm → x.cnt ≤ 16777216 → Parts (· < w.heap.size) w v x → Calls Tryz.prog 30 #[v, .bool free] w (FmP free x w)
set_option maxRecDepth 100000 in
set_option maxHeartbeats 40000000 in
theorem fm_step (n : Nat) (ih : FmSaid n) : FmSaid (n + 1) := by
  intro x hn free v w hsm hcx hx
  obtain ⟨a, c, rfl, h1, h2, h3⟩ := hx.lt
  have HX : Hid (Rest (· < w.heap.size) a w x 0) := fun hne => by
    obtain ⟨b, o, q1, q2, q3⟩ := h3 hne
    exact ⟨b, o, q1, q2, by rw [Nat.zero_mul, Nat.add_zero]; exact q3⟩
  have HSM := Lib.hid hsm
  have IH := Lib.hid ih
  have hlc := len_cnt x
  clear h3 hx h1 h2 ih hsm
  go_enter Tryz.func30, Tryz.ntmps30
  go_wp2_with fail
  go_loopw [5] (fun v5 wr => ∃ (k : Nat) (r : Pt), v5 = .int .i64 (k : Nat) ∧ k + r.len = x.len ∧ Hid (r.form free = x.form free) ∧ Hid (Rest (· < w.heap.size) a w r k) ∧ r.cnt ≤ x.cnt ∧ Hid r.sm ∧ Hid (Below w.heap.size w wr)) (fun i _ => x.len - (intOf i).toNat)
  case atStart => exact ⟨0, x, rfl, by omega, rfl, HX, Nat.le_refl _, HSM, Below.refl _ _⟩
  case round =>
    obtain ⟨k, r, rfl, hk, HC, HR, hcn, HSR, HB⟩ := hrel
    cases r with
    | nil =>
      simp only [Pt.len] at hk
      have hge : ¬ (k : Int) < (x.len : Int) := by omega
      have HE : Hid (true = x.form free) := by have := HC.out; unfold Hid; rw [← this]; cases free <;> rfl
      go_wp2_with fail
      go_ret
      exact ⟨ret_bool HE.out, HB.out⟩
    | cons h kd el r =>
      simp only [Pt.len] at hk
      simp only [Pt.cnt] at hcn
      have hkt : (k : Int) < (x.len : Int) := by omega
      have hk0 : (0 : Int) ≤ (k : Int) := by omega
      obtain ⟨hsh, hsk, hse, hsr⟩ := HSR.out
      have HSR2 := Lib.hid hsr
      obtain ⟨b, o, rfl, hb, hrow⟩ := HR.out (by simp)
      have HRS : Hid (Rest (· < w.heap.size) (some ⟨b, o, none⟩) w r (k + 1)) := fun _ => ⟨b, o, rfl, hb, by have := hrow.2.2.2; rwa [show o + k * 8 + 8 = o + (k + 1) * 8 by omega] at this⟩
      obtain ⟨⟨g0, g1, g2, g3, ⟨vn, g4, hstr⟩, g5⟩, ⟨ak, ck, g6, k1, k2, k3⟩, ⟨ae, ce, g7, e1, e2, e3⟩, -⟩ := hrow
      have hsw := HB.out.size
      have KC : Hid (∀ W, Below w.heap.size w W → Calls Tryz.prog 30 #[.slice ak kd.len ck, .bool false] W (FmP false kd W)) := fun W hW =>
        IH.out kd (by omega) false _ W hsk (by omega) ((Parts.kept ⟨ak, ck, rfl, k1, k2, k3⟩ (fun b hb => hW.block b hb.2)).mono (fun b hb => Nat.lt_of_lt_of_le hb.2 hW.size))
      have EC : Hid (∀ W, Below w.heap.size w W → Calls Tryz.prog 30 #[.slice ae el.len ce, .bool false] W (FmP false el W)) := fun W hW =>
        IH.out el (by omega) false _ W hse (by omega) ((Parts.kept ⟨ae, ce, rfl, e1, e2, e3⟩ (fun b hb => hW.block b hb.2)).mono (fun b hb => Nat.lt_of_lt_of_le hb.2 hW.size))
      obtain ⟨s1, s2, s3, s4, s5⟩ := hsh
      have NM : Hid (∀ W, Below w.heap.size w W → Calls Tryz.prog 62 #[vn] W fun e w' => e = .returned (.bool (namesOk (bls h.names))) ∧ W = w') := fun W hW =>
        namedR_calls (fun b => b < w.heap.size ∧ b < w.heap.size) h.names (by omega) (fun s hs => by have := s5 s hs; omega) vn W (hstr.kept (fun b hb => hW.block b hb.2))
      have NA : Hid (∀ W, Calls Tryz.prog 34 #[.string h.name] W fun e w' => e = .returned (.bool (nameOk (bl h.name))) ∧ W = w') := fun W => nameR_calls h.name (by omega) W
      have TX : Hid (∀ W (l : Bool), Calls Tryz.prog 63 #[.string h.text, .bool l] W fun e w' => e = .returned (.bool (mayB (bl h.text) l)) ∧ Below W.heap.size W w') := fun W l => textR_calls h.text l s2 W
      have HA : Hid (Below wr.heap.size wr (wr.alloc (.cells (pCells h vn (.slice ak kd.len ck) (.slice ae el.len ce)) 58))) := (Below.refl _ wr).alloc (Nat.le_refl _) _
      have HT : Hid ((wr.alloc (.cells (pCells h vn (.slice ak kd.len ck) (.slice ae el.len ce)) 58)).heap[wr.heap.size]? = some (.cells (pCells h vn (.slice ak kd.len ck) (.slice ae el.len ce)) 58 (0, 0))) := heap_alloc_new wr _
      have HS : Hid ((wr.alloc (.cells (pCells h vn (.slice ak kd.len ck) (.slice ae el.len ce)) 58)).heap.size = wr.heap.size + 1) := by unfold Hid; simp
      obtain ⟨an, cn, rfl, n1, n2, -⟩ := hstr
      have cc : ∀ j y, w.cell? ⟨b, o + k * 8 + j, none⟩ = some y → wr.cell? ⟨b, o + k * 8 + j, none⟩ = some y := fun j y hy => (HB.out.cell (p := ⟨b, _, none⟩) hb.2).trans hy
      have p0 := cc 0 _ g0
      have p1 := cc 1 _ g1
      have p2 := cc 2 _ g2
      have p3 := cc 3 _ g3
      have p4 := cc 4 _ g4
      have p5 := cc 5 _ g5
      have p6 := cc 6 _ g6
      have p7 := cc 7 _ g7
      rw [Nat.add_zero] at p0
      have hbl : b < wr.heap.size := Nat.lt_of_lt_of_le hb.2 HB.out.size
      have HKI := Lib.hid hk
      have hki : k + 1 + r.len ≤ x.len := by omega
      clear k3 e3 g0 g1 g2 g3 g4 g5 g6 g7 cc hk hsk hse hsr s5
      unfold pCells at HA HT HS
      go_upto_region 5 with (fail)
      generalize hWW : World.alloc wr _ = W0 at *
      clear hWW p0 p1 p2 p3 p4 p5 p6 p7
      have HXC : Hid (∀ W, Below (wr.heap.size + 1) W0 W → W.cell? ⟨wr.heap.size, 0, none⟩ = some (.int .u8 (h.kind : Nat)) ∧ W.cell? ⟨wr.heap.size, 2, none⟩ = some (.string h.text) ∧ W.cell? ⟨wr.heap.size, 3, none⟩ = some (.bool h.root) ∧ W.cell? ⟨wr.heap.size, 4, none⟩ = some (.slice an h.names.length cn) ∧
          W.cell? ⟨wr.heap.size, 5, none⟩ = some (.string h.name) ∧ W.cell? ⟨wr.heap.size, 6, none⟩ = some (.slice ak kd.len ck) ∧ W.cell? ⟨wr.heap.size, 7, none⟩ = some (.slice ae el.len ce) ∧ Below w.heap.size w W ∧ wr.heap.size + 1 ≤ W.heap.size) := fun W hW => by
        have q := fun j => cell_of_heap' ((hW.block _ (by omega)).trans HT.out) j
        exact ⟨(q 0).trans rfl, (q 2).trans rfl, (q 3).trans rfl, (q 4).trans rfl, (q 5).trans rfl, (q 6).trans rfl, (q 7).trans rfl, (HB.out.trans (HA.out.mono hsw)).trans (hW.mono (by omega)), by have := hW.size; rw [HS.out] at this; exact this⟩
      have HW0 : Hid (Below (wr.heap.size + 1) W0 W0) := Below.refl _ _
      clear HA HT HS
      obtain ⟨x0, x2, x3, x4, x5, x6, x7, hb0, hs0⟩ := HXC.out _ HW0.out
      obtain ⟨pp, hpp⟩ : ∃ q, (h.root || decide (0 < h.names.length)) = q := ⟨_, rfl⟩
      have HPP := Lib.hid hpp
      clear hpp
      go_cut [7] (fun v7 wx => v7 = .bool pp ∧ wx = W0)
      case first =>
        cases hr : h.root with
        | true =>
          rw [hr] at x3
          go_wp2_with fail
          go_meet
          case rel => exact ⟨by rw [← HPP.out, hr]; rfl, rfl⟩
        | false =>
          rw [hr] at x3
          go_wp2_with fail
          go_meet
          case rel => exact ⟨by rw [← HPP.out, hr]; simp, rfl⟩
      case rest =>
        obtain ⟨rfl, rfl⟩ := hcut
        clear x0 x2 x3 x4 x5 x6 x7
        have hi : (x.len : Int) - 1 = ((x.len - 1 : Nat) : Int) := by have := HKI.out; omega
        go_upto_region 6 with (fail)
        go_cut [8] (fun v8 wx => v8 = .bool (free && r.isNil) ∧ wx = wc)
        case first =>
          cases hrn : r.isNil with
          | true =>
            have hq : ((k : Int) == ((x.len - 1 : Nat) : Int)) = true := by
              have := HKI.out
              cases r with
              | nil => simp only [Pt.len] at this; exact beq_iff_eq.2 (by omega)
              | cons _ _ _ _ => cases hrn
            cases free with
            | true =>
              go_wp2_with fail
              go_meet
              case rel => exact ⟨by rw [hrn]; rfl, rfl⟩
            | false =>
              go_wp2_with fail
              go_meet
              case rel => exact ⟨by rw [hrn]; rfl, rfl⟩
          | false =>
            have hq : ((k : Int) == ((x.len - 1 : Nat) : Int)) = false := by
              have := HKI.out
              cases r with
              | nil => cases hrn
              | cons _ _ _ _ => simp only [Pt.len] at this; exact beq_eq_false_iff_ne.2 (by omega)
            go_wp2_with fail
            go_meet
            case rel => exact ⟨by rw [hrn]; simp, rfl⟩
        case rest =>
          obtain ⟨rfl, rfl⟩ := hcut
          clear hi
          obtain ⟨x0, x2, x3, x4, x5, x6, x7, hb0, hs0⟩ := HXC.out _ HW0.out
          have NM1 := Lib.hid (NM.out _ hb0)
          have NA1 := Lib.hid (NA.out wc)
          have TX1 := Lib.hid (TX.out wc (free && r.isNil))
          go_wp2_with (first
            | (go_at_call 62; refine NM1.out.mono ?_; rintro e w' ⟨rfl, rfl⟩)
            | (go_at_call 34; refine NA1.out.mono ?_; rintro e w' ⟨rfl, rfl⟩))
          refine TX1.out.mono ?_
          rintro e w2 ⟨rfl, hb2⟩
          have HW2 : Hid (Below (wr.heap.size + 1) wc w2) := HW0.out.trans (hb2.mono hs0)
          clear hb2 x0 x2 x3 x4 x5 x6 x7 hb0 hs0 NM1 NA1 TX1
          obtain ⟨x0, x2, x3, x4, x5, x6, x7, hb2, hs2⟩ := HXC.out _ HW2.out
          have HB2 := Lib.hid hb2
          have KC1 := Lib.hid (KC.out _ hb2)
          clear hb2
          have HFC : Hid ((hdOk h kd el (free && r.isNil) && (if h.kind = 3 ∨ h.kind = 4 then Pt.form false kd && Pt.form false el else true) && Pt.form free r) = x.form free) := by unfold Hid; rw [← HC.out]; rfl
          obtain ⟨nm, hnm⟩ : ∃ q, namesOk (bls h.names) = q := ⟨_, rfl⟩
          obtain ⟨na, hna⟩ : ∃ q, nameOk (bl h.name) = q := ⟨_, rfl⟩
          obtain ⟨gd, hgd⟩ : ∃ q, mayB (bl h.text) (free && r.isNil) = q := ⟨_, rfl⟩
          obtain ⟨te0, hte⟩ : ∃ q, h.text.toList.isEmpty = q := ⟨_, rfl⟩
          obtain ⟨ne0, hne⟩ : ∃ q, h.name.toList.isEmpty = q := ⟨_, rfl⟩
          obtain ⟨kn, hkn⟩ : ∃ q, ((kd.len : Int) == 0) = q := ⟨_, rfl⟩
          obtain ⟨en, hen⟩ : ∃ q, ((el.len : Int) == 0) = q := ⟨_, rfl⟩
          have hte' : (bl h.text).isEmpty = te0 := by rw [← hte, ByteArray.toList_eq]; rfl
          have hne' : (bl h.name).isEmpty = ne0 := by rw [← hne, ByteArray.toList_eq]; rfl
          have hkn' : kd.isNil = kn := by rw [← hkn]; cases kd with | nil => rfl | cons _ _ _ _ => simp only [Pt.isNil, Pt.len]; symm; exact beq_eq_false_iff_ne.2 (by omega)
          have hen' : el.isNil = en := by rw [← hen]; cases el with | nil => rfl | cons _ _ _ _ => simp only [Pt.isNil, Pt.len]; symm; exact beq_eq_false_iff_ne.2 (by omega)
          have hpp' : (!h.root && h.names.isEmpty) = !pp := by
            rw [← HPP.out]
            cases h.root <;> cases h.names <;> simp
          rw [hnm, hna, hgd]
          by_cases h1 : h.kind = 1
          · have HF1 : Hid ((gd && !pp && ne0 && kn && en && Pt.form free r) = x.form free) := by
              unfold Hid
              rw [← HFC.out, hdOk, if_pos h1, if_neg (by omega), hgd, hne', hkn', hen', ← hpp']
              simp only [Bool.and_true, Bool.and_assoc]
            rw [h1] at x0
            clear HFC hnm hna hgd hte' hne' hkn' hen' hpp' HPP h1
            cases gd with
            | false =>
              have HE : Hid (false = x.form free) := by unfold Hid; rw [← HF1.out]; simp
              go_wp2_with fail
              go_ret
              exact ⟨ret_bool HE.out, HB2.out⟩
            | true =>
              cases pp with
              | true =>
                have HE : Hid (false = x.form free) := by unfold Hid; rw [← HF1.out]; simp
                go_wp2_with fail
                go_ret
                exact ⟨ret_bool HE.out, HB2.out⟩
              | false =>
                cases ne0 with
                | false =>
                  have HE : Hid (false = x.form free) := by unfold Hid; rw [← HF1.out]; simp
                  go_wp2_with fail
                  go_ret
                  exact ⟨ret_bool HE.out, HB2.out⟩
                | true =>
                  cases kn with
                  | false =>
                    have HE : Hid (false = x.form free) := by unfold Hid; rw [← HF1.out]; simp
                    go_wp2_with fail
                    go_ret
                    exact ⟨ret_bool HE.out, HB2.out⟩
                  | true =>
                    cases en with
                    | false =>
                      have HE : Hid (false = x.form free) := by unfold Hid; rw [← HF1.out]; simp
                      go_wp2_with fail
                      go_ret
                      exact ⟨ret_bool HE.out, HB2.out⟩
                    | true =>
                      have HE : Hid (Pt.form free r = x.form free) := by unfold Hid; rw [← HF1.out]; simp
                      go_wp2_with fail
                      exact ⟨⟨k + 1, r, by go_num, by have := HKI.out; omega, HE, HRS, by omega, HSR2, HB2⟩, by simp [intOf]; omega⟩
          by_cases h2 : h.kind = 2
          · have HF1 : Hid ((nm && te0 && ne0 && kn && en && Pt.form free r) = x.form free) := by
              unfold Hid
              rw [← HFC.out, hdOk, if_neg h1, if_pos h2, if_neg (by omega), hnm, hte', hne', hkn', hen']
              simp only [Bool.and_true, Bool.and_assoc]
            rw [h2] at x0
            clear HFC hnm hna hgd hte' hne' hkn' hen' hpp' HPP h1 h2
            cases nm with
            | false =>
              have HE : Hid (false = x.form free) := by unfold Hid; rw [← HF1.out]; simp
              go_wp2_with fail
              go_ret
              exact ⟨ret_bool HE.out, HB2.out⟩
            | true =>
              cases te0 with
              | false =>
                have HE : Hid (false = x.form free) := by unfold Hid; rw [← HF1.out]; simp
                go_wp2_with fail
                go_ret
                exact ⟨ret_bool HE.out, HB2.out⟩
              | true =>
                cases ne0 with
                | false =>
                  have HE : Hid (false = x.form free) := by unfold Hid; rw [← HF1.out]; simp
                  go_wp2_with fail
                  go_ret
                  exact ⟨ret_bool HE.out, HB2.out⟩
                | true =>
                  cases kn with
                  | false =>
                    have HE : Hid (false = x.form free) := by unfold Hid; rw [← HF1.out]; simp
                    go_wp2_with fail
                    go_ret
                    exact ⟨ret_bool HE.out, HB2.out⟩
                  | true =>
                    cases en with
                    | false =>
                      have HE : Hid (false = x.form free) := by unfold Hid; rw [← HF1.out]; simp
                      go_wp2_with fail
                      go_ret
                      exact ⟨ret_bool HE.out, HB2.out⟩
                    | true =>
                      have HE : Hid (Pt.form free r = x.form free) := by unfold Hid; rw [← HF1.out]; simp
                      go_wp2_with fail
                      exact ⟨⟨k + 1, r, by go_num, by have := HKI.out; omega, HE, HRS, by omega, HSR2, HB2⟩, by simp [intOf]; omega⟩
          by_cases h3 : h.kind = 3
          · have HF1 : Hid ((nm && te0 && ne0 && Pt.form false kd && Pt.form false el && Pt.form free r) = x.form free) := by
              unfold Hid
              rw [← HFC.out, hdOk, if_neg h1, if_neg h2, if_pos (.inl h3), if_pos (.inl h3), hnm, hte', hne']
              simp only [Bool.and_true, Bool.and_assoc]
            rw [h3] at x0
            clear HFC hnm hna hgd hte' hne' hkn' hen' hpp' HPP h1 h2 h3
            cases nm with
            | false =>
              have HE : Hid (false = x.form free) := by unfold Hid; rw [← HF1.out]; simp
              go_wp2_with fail
              go_ret
              exact ⟨ret_bool HE.out, HB2.out⟩
            | true =>
              cases te0 with
              | false =>
                have HE : Hid (false = x.form free) := by unfold Hid; rw [← HF1.out]; simp
                go_wp2_with fail
                go_ret
                exact ⟨ret_bool HE.out, HB2.out⟩
              | true =>
                cases ne0 with
                | false =>
                  have HE : Hid (false = x.form free) := by unfold Hid; rw [← HF1.out]; simp
                  go_wp2_with fail
                  go_ret
                  exact ⟨ret_bool HE.out, HB2.out⟩
                | true =>
                  cases hkf : Pt.form false kd with
                  | false =>
                    have HE : Hid (false = x.form free) := by unfold Hid; rw [← HF1.out, hkf]; simp
                    unfold FmP at KC1
                    rw [hkf] at KC1
                    clear hkf
                    go_wp2_with fail
                    refine KC1.out.mono ?_
                    rintro e w3 ⟨rfl, hb3⟩
                    have HB3 : Hid (Below w.heap.size w w3) := HB2.out.trans (hb3.mono HB2.out.size)
                    clear hb3 x0 x2 x3 x4 x5 x6 x7
                    go_wp2_with fail
                    go_ret
                    exact ⟨ret_bool HE.out, HB3.out⟩
                  | true =>
                    have HF2 : Hid ((Pt.form false el && Pt.form free r) = x.form free) := by unfold Hid; rw [← HF1.out, hkf]; simp
                    unfold FmP at KC1
                    rw [hkf] at KC1
                    clear hkf
                    go_wp2_with fail
                    refine KC1.out.mono ?_
                    rintro e w3 ⟨rfl, hb3⟩
                    have HB3 : Hid (Below w.heap.size w w3) := HB2.out.trans (hb3.mono HB2.out.size)
                    have HW3 : Hid (Below (wr.heap.size + 1) wc w3) := HW2.out.trans (hb3.mono hs2)
                    clear hb3 x0 x2 x3 x4 x5 x6 x7
                    obtain ⟨x0, x2, x3, x4, x5, x6, x7, -, -⟩ := HXC.out _ HW3.out
                    have EC1 := Lib.hid (EC.out _ HB3.out)
                    unfold FmP at EC1
                    cases hef : Pt.form false el with
                    | false =>
                      have HE : Hid (false = x.form free) := by unfold Hid; rw [← HF2.out, hef]; simp
                      rw [hef] at EC1
                      clear hef
                      go_wp2_with fail
                      refine EC1.out.mono ?_
                      rintro e w4 ⟨rfl, hb4⟩
                      have HB4 : Hid (Below w.heap.size w w4) := HB3.out.trans (hb4.mono HB3.out.size)
                      clear hb4 x0 x2 x3 x4 x5 x6 x7
                      go_wp2_with fail
                      go_ret
                      exact ⟨ret_bool HE.out, HB4.out⟩
                    | true =>
                      have HE : Hid (Pt.form free r = x.form free) := by unfold Hid; rw [← HF2.out, hef]; simp
                      rw [hef] at EC1
                      clear hef
                      go_wp2_with fail
                      refine EC1.out.mono ?_
                      rintro e w4 ⟨rfl, hb4⟩
                      have HB4 : Hid (Below w.heap.size w w4) := HB3.out.trans (hb4.mono HB3.out.size)
                      clear hb4 x0 x2 x3 x4 x5 x6 x7
                      go_wp2_with fail
                      exact ⟨⟨k + 1, r, by go_num, by have := HKI.out; omega, HE, HRS, by omega, HSR2, HB4⟩, by simp [intOf]; omega⟩
          by_cases h4 : h.kind = 4
          · have HF1 : Hid ((nm && te0 && ne0 && Pt.form false kd && Pt.form false el && Pt.form free r) = x.form free) := by
              unfold Hid
              rw [← HFC.out, hdOk, if_neg h1, if_neg h2, if_pos (.inr h4), if_pos (.inr h4), hnm, hte', hne']
              simp only [Bool.and_true, Bool.and_assoc]
            rw [h4] at x0
            clear HFC hnm hna hgd hte' hne' hkn' hen' hpp' HPP h1 h2 h3 h4
            cases nm with
            | false =>
              have HE : Hid (false = x.form free) := by unfold Hid; rw [← HF1.out]; simp
              go_wp2_with fail
              go_ret
              exact ⟨ret_bool HE.out, HB2.out⟩
            | true =>
              cases te0 with
              | false =>
                have HE : Hid (false = x.form free) := by unfold Hid; rw [← HF1.out]; simp
                go_wp2_with fail
                go_ret
                exact ⟨ret_bool HE.out, HB2.out⟩
              | true =>
                cases ne0 with
                | false =>
                  have HE : Hid (false = x.form free) := by unfold Hid; rw [← HF1.out]; simp
                  go_wp2_with fail
                  go_ret
                  exact ⟨ret_bool HE.out, HB2.out⟩
                | true =>
                  cases hkf : Pt.form false kd with
                  | false =>
                    have HE : Hid (false = x.form free) := by unfold Hid; rw [← HF1.out, hkf]; simp
                    unfold FmP at KC1
                    rw [hkf] at KC1
                    clear hkf
                    go_wp2_with fail
                    refine KC1.out.mono ?_
                    rintro e w3 ⟨rfl, hb3⟩
                    have HB3 : Hid (Below w.heap.size w w3) := HB2.out.trans (hb3.mono HB2.out.size)
                    clear hb3 x0 x2 x3 x4 x5 x6 x7
                    go_wp2_with fail
                    go_ret
                    exact ⟨ret_bool HE.out, HB3.out⟩
                  | true =>
                    have HF2 : Hid ((Pt.form false el && Pt.form free r) = x.form free) := by unfold Hid; rw [← HF1.out, hkf]; simp
                    unfold FmP at KC1
                    rw [hkf] at KC1
                    clear hkf
                    go_wp2_with fail
                    refine KC1.out.mono ?_
                    rintro e w3 ⟨rfl, hb3⟩
                    have HB3 : Hid (Below w.heap.size w w3) := HB2.out.trans (hb3.mono HB2.out.size)
                    have HW3 : Hid (Below (wr.heap.size + 1) wc w3) := HW2.out.trans (hb3.mono hs2)
                    clear hb3 x0 x2 x3 x4 x5 x6 x7
                    obtain ⟨x0, x2, x3, x4, x5, x6, x7, -, -⟩ := HXC.out _ HW3.out
                    have EC1 := Lib.hid (EC.out _ HB3.out)
                    unfold FmP at EC1
                    cases hef : Pt.form false el with
                    | false =>
                      have HE : Hid (false = x.form free) := by unfold Hid; rw [← HF2.out, hef]; simp
                      rw [hef] at EC1
                      clear hef
                      go_wp2_with fail
                      refine EC1.out.mono ?_
                      rintro e w4 ⟨rfl, hb4⟩
                      have HB4 : Hid (Below w.heap.size w w4) := HB3.out.trans (hb4.mono HB3.out.size)
                      clear hb4 x0 x2 x3 x4 x5 x6 x7
                      go_wp2_with fail
                      go_ret
                      exact ⟨ret_bool HE.out, HB4.out⟩
                    | true =>
                      have HE : Hid (Pt.form free r = x.form free) := by unfold Hid; rw [← HF2.out, hef]; simp
                      rw [hef] at EC1
                      clear hef
                      go_wp2_with fail
                      refine EC1.out.mono ?_
                      rintro e w4 ⟨rfl, hb4⟩
                      have HB4 : Hid (Below w.heap.size w w4) := HB3.out.trans (hb4.mono HB3.out.size)
                      clear hb4 x0 x2 x3 x4 x5 x6 x7
                      go_wp2_with fail
                      exact ⟨⟨k + 1, r, by go_num, by have := HKI.out; omega, HE, HRS, by omega, HSR2, HB4⟩, by simp [intOf]; omega⟩
          by_cases h5 : h.kind = 5
          · have HF1 : Hid ((nm && te0 && na && kn && en && Pt.form free r) = x.form free) := by
              unfold Hid
              rw [← HFC.out, hdOk, if_neg h1, if_neg h2, if_neg (by omega), if_pos h5, if_neg (by omega), hnm, hte', hna, hkn', hen']
              simp only [Bool.and_true, Bool.and_assoc]
            rw [h5] at x0
            clear HFC hnm hna hgd hte' hne' hkn' hen' hpp' HPP h1 h2 h3 h4 h5
            cases nm with
            | false =>
              have HE : Hid (false = x.form free) := by unfold Hid; rw [← HF1.out]; simp
              go_wp2_with fail
              go_ret
              exact ⟨ret_bool HE.out, HB2.out⟩
            | true =>
              cases te0 with
              | false =>
                have HE : Hid (false = x.form free) := by unfold Hid; rw [← HF1.out]; simp
                go_wp2_with fail
                go_ret
                exact ⟨ret_bool HE.out, HB2.out⟩
              | true =>
                cases na with
                | false =>
                  have HE : Hid (false = x.form free) := by unfold Hid; rw [← HF1.out]; simp
                  go_wp2_with fail
                  go_ret
                  exact ⟨ret_bool HE.out, HB2.out⟩
                | true =>
                  cases kn with
                  | false =>
                    have HE : Hid (false = x.form free) := by unfold Hid; rw [← HF1.out]; simp
                    go_wp2_with fail
                    go_ret
                    exact ⟨ret_bool HE.out, HB2.out⟩
                  | true =>
                    cases en with
                    | false =>
                      have HE : Hid (false = x.form free) := by unfold Hid; rw [← HF1.out]; simp
                      go_wp2_with fail
                      go_ret
                      exact ⟨ret_bool HE.out, HB2.out⟩
                    | true =>
                      have HE : Hid (Pt.form free r = x.form free) := by unfold Hid; rw [← HF1.out]; simp
                      go_wp2_with fail
                      exact ⟨⟨k + 1, r, by go_num, by have := HKI.out; omega, HE, HRS, by omega, HSR2, HB2⟩, by simp [intOf]; omega⟩
          have HF1 : Hid (false = x.form free) := by
            unfold Hid
            rw [← HFC.out, hdOk, if_neg h1, if_neg h2, if_neg (by omega), if_neg h5]; simp
          have f1 : ((h.kind : Int) == 1) = false := beq_eq_false_iff_ne.2 (by omega)
          have f2 : ((h.kind : Int) == 2) = false := beq_eq_false_iff_ne.2 (by omega)
          have f3 : ((h.kind : Int) == 3) = false := beq_eq_false_iff_ne.2 (by omega)
          have f4 : ((h.kind : Int) == 4) = false := beq_eq_false_iff_ne.2 (by omega)
          have f5 : ((h.kind : Int) == 5) = false := beq_eq_false_iff_ne.2 (by omega)
          clear HFC hnm hna hgd hte' hne' hkn' hen' hpp' HPP h1 h2 h3 h4 h5
          go_wp2_with fail
          go_ret
          exact ⟨ret_bool HF1.out, HB2.out⟩
theorem fm_all (n : Nat) : FmSaid n := by
  induction n with
  | zero => intro x h; exact absurd h (Nat.not_lt_zero _)
  | succ n ih => exact fm_step n ih
theorem formR_calls (x : Pt) (free : Bool) (v : Value) (w : World) (hsm : x.sm) (hc : x.cnt ≤ 16777216) (hx : Parts (· < w.heap.size) w v x) : Calls Tryz.prog 30 #[v, .bool free] w (FmP free x w) :=
  fm_all (x.cnt + 1) x (Nat.lt_succ_self _) free v w hsm hc hx
end Go.Proofs.YtdgcdjpjnhlihaaGreatDoor
