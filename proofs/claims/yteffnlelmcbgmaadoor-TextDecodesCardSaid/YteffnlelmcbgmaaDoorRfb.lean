/-
  The contract of lacunaref01.begins. The condition: some byte is there.
-/
import Derived.Test.YteffnlelmcbgmaaDoorRfa
set_option linter.unusedVariables false
namespace Go.Proofs.YteffnlelmcbgmaaDoor
open Go.RowKit Go.Shelf

/-- The bytes behind the first go on. -/
def contB (b : List UInt8) : Bool := ((List.range b.length).drop 1).any (fun i => decide ((b.getD i 0).toNat < 128 ∨ 191 < (b.getD i 0).toNat))
theorem contB_bad (b : List UInt8) (k : Nat) (h1 : 1 ≤ k) (h2 : k < b.length) (h : (b.getD k 0).toNat < 128 ∨ 191 < (b.getD k 0).toNat) : contB b = true := by
  unfold contB
  rw [List.any_eq_true]
  refine ⟨k, ?_, by simpa using h⟩
  rw [List.mem_iff_getElem?]
  exact ⟨k - 1, by rw [List.getElem?_drop, show 1 + (k - 1) = k by omega, List.getElem?_range h2]⟩
theorem contB_good (b : List UInt8) (h : ∀ j, 1 ≤ j → j < b.length → 128 ≤ (b.getD j 0).toNat ∧ (b.getD j 0).toNat ≤ 191) : contB b = false := by
  unfold contB
  rw [List.any_eq_false]
  intro x hx
  rw [List.mem_iff_getElem?] at hx
  obtain ⟨i, hi⟩ := hx
  rw [List.getElem?_drop] at hi
  have hl : 1 + i < b.length := by
    have := (List.getElem?_eq_some_iff.1 hi).1
    simpa using this
  rw [List.getElem?_range hl] at hi
  obtain rfl := Option.some.inj hi
  have h2 := h (1 + i) (by omega) hl
  rw [decide_eq_true_iff]
  omega
theorem bgs_eq (b : List UInt8) (n : Nat) (hn : lg (b.getD 0 0).toNat = n) : bgs b = (if n = 0 ∨ n < b.length then false
  else if contB b then false
  else if n = 1 then true
  else
    let low := max (bnd b n n).1 (if n = 2 then 128 else if n = 3 then 2048 else 65536)
    let high := min (bnd b n n).2 (if n = 2 then 2047 else if n = 3 then 65535 else 1114111)
    if n = 3 ∧ 55296 ≤ low ∧ high ≤ 57343 then false else decide (low ≤ high)) := by
  subst hn; rfl

theorem bgs_zero (b : List UInt8) (n : Nat) (hn : lg (b.getD 0 0).toNat = n) (h : n = 0 ∨ n < b.length) : bgs b = false := by
  rw [bgs_eq b n hn, if_pos h]
theorem bgs_bad (b : List UInt8) (n : Nat) (hn : lg (b.getD 0 0).toNat = n) (h : contB b = true) : bgs b = false := by
  rw [bgs_eq b n hn]
  by_cases hc : n = 0 ∨ n < b.length
  · rw [if_pos hc]
  · rw [if_neg hc, if_pos h]
theorem bgs_one (b : List UInt8) (hn : lg (b.getD 0 0).toNat = 1) (h : ¬ 1 < b.length) (hc : contB b = false) : bgs b = true := by
  rw [bgs_eq b 1 hn, if_neg (by omega), hc, if_neg (by simp), if_pos rfl]
theorem bgs_some (b : List UInt8) (n : Nat) (hn : lg (b.getD 0 0).toNat = n) (h0 : n ≠ 0) (h : ¬ n < b.length) (hc : contB b = false) (h1 : n ≠ 1) (f l : Int)
    (hf : f = if n = 2 then 128 else if n = 3 then 2048 else 65536) (hl : l = if n = 2 then 2047 else if n = 3 then 65535 else 1114111) :
    bgs b = if n = 3 ∧ 55296 ≤ max (bnd b n n).1 f ∧ min (bnd b n n).2 l ≤ 57343 then false else decide (max (bnd b n n).1 f ≤ min (bnd b n n).2 l) := by
  subst hf hl
  rw [bgs_eq b n hn, if_neg (by omega), hc, if_neg (by simp), if_neg h1]

set_option maxRecDepth 100000 in
set_option maxHeartbeats 2000000 in
theorem begins_calls (s : ByteArray) (h0 : 0 < s.size) (hs : s.size ≤ 4) (w : World) :
    Calls Tryd.prog 57 #[.string s] w fun e w' => e = .returned (.bool (bgs s.data.toList)) ∧ Below w.heap.size w w' := by
  obtain ⟨n, hn⟩ : ∃ n, lg (s.data.toList.getD 0 0).toNat = n := ⟨_, rfl⟩
  have hn4 : n ≤ 4 := by rw [← hn]; exact lg_le _
  have HE := Lib.hid hn
  have hsl : s.data.toList.length = s.size := by simp
  have HSL := Lib.hid hsl
  have HL : Hid (∀ w, Calls Tryd.prog 58 #[.int .u8 (s[0].toNat : Nat)] w fun e w' => e = .returned (.int .i64 n) ∧ w' = w) := by
    intro w
    have h1 := long_calls s[0].toNat s[0].toNat_lt w
    have e : lg s[0].toNat = n := by rw [← getD_get s 0 h0]; exact hn
    rw [e] at h1
    exact h1
  clear hn
  by_cases hn0 : n = 0
  · subst hn0
    have HR := Lib.hid (bgs_zero s.data.toList 0 HE.out (.inl rfl))
    go_enter Tryd.func57, Tryd.ntmps57
    go_wp2_with fail
    refine (HL.out _).mono ?_
    rintro e w' ⟨rfl, rfl⟩
    go_wp2
    go_ret
    exact ⟨ret_bool HR.out.symm, Below.refl _ _⟩
  have hn0' : ((n : Int) == 0) = false := beq_eq_false_iff_ne.2 (by omega)
  by_cases hnl : n < s.size
  · have HR := Lib.hid (bgs_zero s.data.toList n HE.out (.inr (by rw [hsl]; exact hnl)))
    have hnl' : (n : Int) < s.size := by omega
    go_enter Tryd.func57, Tryd.ntmps57
    go_wp2_with fail
    refine (HL.out _).mono ?_
    rintro e w' ⟨rfl, rfl⟩
    go_wp2
    go_ret
    exact ⟨ret_bool HR.out.symm, Below.refl _ _⟩
  have hnl' : ¬ ((n : Int) < s.size) := by omega
  go_enter Tryd.func57, Tryd.ntmps57
  go_wp2_with fail
  refine (HL.out _).mono ?_
  rintro e w' ⟨rfl, rfl⟩
  go_wp2
  clear HL
  go_loop [4] (fun v => ∃ k : Nat, 1 ≤ k ∧ k ≤ s.size ∧ v = .int .i64 k ∧ Hid (∀ j, 1 ≤ j → j < k → 128 ≤ (s.data.toList.getD j 0).toNat ∧ (s.data.toList.getD j 0).toNat ≤ 191)) (fun v => s.size - (intOf v).toNat)
  case atStart => exact ⟨1, by omega, by omega, rfl, fun j h1 h2 => by omega⟩
  case round =>
    obtain ⟨k, hk1, hk, rfl, HG⟩ := hrel
    by_cases hlt : k < s.size
    · have hlt' : (k : Int) < s.size := by omega
      have hgd := Lib.hid (getD_get s k hlt)
      obtain ⟨c, hc⟩ : ∃ c, s[k].toNat = c := ⟨_, rfl⟩
      have HC := Lib.hid hc
      by_cases hg : 128 ≤ c ∧ c ≤ 191
      · have g1 : ¬ ((s[k].toNat : Int) < 128) := by omega
        have g2 : ¬ ((191 : Int) < (s[k].toNat : Int)) := by omega
        clear hc
        go_wp2
        refine ⟨⟨k + 1, by omega, by omega, by go_num, ?_⟩, by simp [intOf]; omega⟩
        intro j h1 h2
        by_cases e : j = k
        · subst e; rw [hgd.out, HC.out]; exact hg
        · exact HG.out j h1 (by omega)
      · have HB := Lib.hid (contB_bad s.data.toList k hk1 (by omega) (by rw [hgd.out, HC.out]; omega))
        have HR := Lib.hid (bgs_bad s.data.toList n HE.out HB.out)
        by_cases g1 : (s[k].toNat : Int) < 128
        · clear hc hg
          go_wp2
          go_ret
          exact ⟨ret_bool HR.out.symm, Below.refl _ _⟩
        · have g2 : (191 : Int) < (s[k].toNat : Int) := by omega
          clear hc hg
          go_wp2
          go_ret
          exact ⟨ret_bool HR.out.symm, Below.refl _ _⟩
    · obtain rfl : k = s.size := by omega
      have HB := Lib.hid (contB_good s.data.toList (by rw [hsl]; exact HG.out))
      clear HG
      have hn3 : n = 1 ∨ n = 2 ∨ n = 3 ∨ n = 4 := by omega
      rcases hn3 with rfl | rfl | rfl | rfl
      · have HR := Lib.hid (bgs_one s.data.toList HE.out (by omega) HB.out)
        go_wp2
        go_ret
        exact ⟨ret_bool HR.out.symm, Below.refl _ _⟩
      · have HR := Lib.hid (bgs_some s.data.toList 2 HE.out (by omega) (by omega) HB.out (by omega) 128 2047 rfl rfl)
        have hbd := bnd_le s.data.toList 2 2 (by omega)
        go_wp2_with fail
        refine (bounds2_calls s h0 _).mono ?_
        rintro e w1 ⟨rfl, hb1⟩
        generalize (bnd s.data.toList 2 2).1 = lo at *
        generalize (bnd s.data.toList 2 2).2 = hi at *
        go_wp2
        go_ret
        exact ⟨ret_bool (by rw [HR.out, if_neg (by omega)]), (hb1.alloc hb1.size _).alloc (by simp; have := hb1.size; omega) _⟩
      · have HR := Lib.hid (bgs_some s.data.toList 3 HE.out (by omega) (by omega) HB.out (by omega) 2048 65535 rfl rfl)
        have hbd := bnd_le s.data.toList 3 3 (by omega)
        go_wp2_with fail
        refine (bounds3_calls s h0 _).mono ?_
        rintro e w1 ⟨rfl, hb1⟩
        generalize (bnd s.data.toList 3 3).1 = lo at *
        generalize (bnd s.data.toList 3 3).2 = hi at *
        have hbf : ∀ o1 o2, Below w'.heap.size w' ((w1.alloc o1).alloc o2) := fun o1 o2 => (hb1.alloc hb1.size _).alloc (by simp; have := hb1.size; omega) _
        by_cases c1 : 55296 ≤ max lo 2048
        · by_cases c2 : min hi 65535 ≤ 57343
          · have HR2 : Hid (bgs s.data.toList = false) := by unfold Hid; rw [HR.out, if_pos ⟨by trivial, c1, c2⟩]
            go_wp2
            go_ret
            exact ⟨ret_bool HR2.out.symm, hbf _ _⟩
          · have HR2 : Hid (bgs s.data.toList = decide (max lo 2048 ≤ min hi 65535)) := by unfold Hid; rw [HR.out, if_neg (fun h => c2 h.2.2)]
            go_wp2
            go_ret
            exact ⟨ret_bool HR2.out.symm, hbf _ _⟩
        · have HR2 : Hid (bgs s.data.toList = decide (max lo 2048 ≤ min hi 65535)) := by unfold Hid; rw [HR.out, if_neg (fun h => c1 h.2.1)]
          go_wp2
          go_ret
          exact ⟨ret_bool HR2.out.symm, hbf _ _⟩
      · have HR := Lib.hid (bgs_some s.data.toList 4 HE.out (by omega) (by omega) HB.out (by omega) 65536 1114111 rfl rfl)
        have hbd := bnd_le s.data.toList 4 4 (by omega)
        go_wp2_with fail
        refine (bounds4_calls s h0 _).mono ?_
        rintro e w1 ⟨rfl, hb1⟩
        generalize (bnd s.data.toList 4 4).1 = lo at *
        generalize (bnd s.data.toList 4 4).2 = hi at *
        go_wp2
        go_ret
        exact ⟨ret_bool (by rw [HR.out, if_neg (by omega)]), (hb1.alloc hb1.size _).alloc (by simp; have := hb1.size; omega) _⟩
end Go.Proofs.YteffnlelmcbgmaaDoor
