/-
  The walk of lacunalaw04.MarkComments: it returns true. The condition: MaxLen holds some number.
-/
import Derived.Test.YtileclmmobkcaaaDoorMwk
set_option linter.unusedVariables false
namespace Go.Proofs.YtileclmmobkcaaaDoor
open Go.RowKit Go.Shelf

/-- Does a text stand in another one? -/
def cb (W r : List UInt8) : Bool := decide (0 ≤ Lib.index r W)
theorem cb_cons (W : List UInt8) (c : UInt8) (r : List UInt8) : cb W (c :: r) = (W.isPrefixOf (c :: r) || cb W r) := by
  unfold cb
  by_cases h : W.isPrefixOf (c :: r) = true
  · rw [h, Lib.index, if_pos h]; rfl
  · rw [index_cons c r W h, Bool.eq_false_iff.2 h, Bool.false_or]
    have := Lib.index_ge r W
    by_cases h2 : Lib.index r W = -1
    · rw [if_pos h2, h2]
    · rw [if_neg h2]
      apply decide_eq_decide.2
      omega
theorem cb_short (W r : List UInt8) (h : r.length < W.length) : cb W r = false := by
  unfold cb
  rw [decide_eq_false_iff_not]
  intro h2
  have := Lib.index_room r W h2
  omega
theorem cb_no (W r : List UInt8) (h : cb W r = false) : Lib.index r W = -1 := by
  unfold cb at h
  rw [decide_eq_false_iff_not] at h
  have := Lib.index_ge r W
  omega
theorem cut_pre (s W : ByteArray) (p : Nat) (r : List UInt8) (hps : Ps s p r) (h : p + W.size ≤ s.size) : ((s.extract p (p + W.size)).toList == W.toList) = W.data.toList.isPrefixOf r := by
  have hl := hps.len
  have hWl : W.data.toList.length = W.size := by simp
  rw [ba_eq, Lib.extract_data, hps.eq, show p + W.size - p = W.size by omega, Bool.eq_iff_iff, beq_iff_eq, List.isPrefixOf_iff_prefix]
  constructor
  · intro h2; rw [← h2]; exact List.take_prefix _ _
  · intro h2
    rw [← hWl]
    exact (List.prefix_iff_eq_take.1 h2).symm

set_option maxRecDepth 100000 in
theorem contains_calls (s W : ByteArray) (hs : s.size ≤ 268435456) (hW : W.size ≤ 100) (hW0 : 0 < W.size) (w : World) :
    Calls Tryd.prog 13 #[.string s, .string W] w fun e w' => e = .returned (.bool (cb W.data.toList s.data.toList)) ∧ w' = w := by
  have hWl : W.data.toList.length = W.size := by simp
  have HWL := Lib.hid hWl
  obtain ⟨B, hB⟩ : ∃ B, cb W.data.toList s.data.toList = B := ⟨_, rfl⟩
  rw [hB]
  have HB := Lib.hid hB
  clear hWl hB
  go_enter Tryd.func13, Tryd.ntmps13
  go_wp2
  go_loop [5] (fun v => ∃ (p : Nat) (r : List UInt8), v = .int .i64 p ∧ p ≤ s.size ∧ Ps s p r ∧ Hid (cb W.data.toList r = B)) (fun v => s.size - (intOf v).toNat)
  case atStart => exact ⟨0, s.data.toList, rfl, Nat.zero_le _, ⟨Nat.zero_le _, rfl⟩, HB.out⟩
  case round =>
    obtain ⟨p, r, rfl, hp, hps, HQ⟩ := hrel
    have hl := hps.len
    by_cases h : p + W.size ≤ s.size
    · have h' : (p : Int) + W.size ≤ s.size := by omega
      have hcmp := cut_pre s W p r hps h
      cases r with
      | nil => simp at hl; omega
      | cons c r2 =>
        obtain ⟨_, _, hps2⟩ := hps.cons
        have HP := Lib.hid hps2
        have hcb := cb_cons W.data.toList c r2
        by_cases hpre : W.data.toList.isPrefixOf (c :: r2) = true
        · rw [hpre] at hcmp
          have HF : Hid (B = true) := by unfold Hid; rw [← HQ.out, hcb, hpre]; rfl
          clear hps hps2 hcb hpre hl
          go_wp2
          go_ret
          exact ⟨ret_bool HF.out.symm, rfl⟩
        · have hpre' : W.data.toList.isPrefixOf (c :: r2) = false := Bool.eq_false_iff.2 hpre
          rw [hpre'] at hcmp
          have HQ2 : Hid (cb W.data.toList r2 = B) := by unfold Hid; rw [← HQ.out, hcb, hpre', Bool.false_or]
          clear hps hps2 hcb hpre hpre' hl
          go_wp2
          go_round
          case rel => exact ⟨p + 1, r2, by go_num, by omega, HP.out, HQ2.out⟩
          case measure => simp [intOf]; omega
    · have h' : ¬ ((p : Int) + W.size ≤ s.size) := by omega
      have HF : Hid (B = false) := by unfold Hid; rw [← HQ.out]; exact cb_short _ _ (by rw [HWL.out]; omega)
      clear hps hl
      go_wp2
      go_ret
      exact ⟨ret_bool HF.out.symm, rfl⟩

theorem end_true (w : World) : (Ending.returned (.bool true) : Ending) = .returned (.bool true) := rfl
theorem last_suffix (s : ByteArray) (n : Nat) (hn : s.size = n + 1) : Lib.hasSuffix s.data.toList [45] = ((s[n]'(by omega)) == 45) := by
  have hl : s.data.toList = s.data.toList.take n ++ [s[n]'(by omega)] := by
    have h1 : n < s.data.toList.length := by simp; omega
    have := List.take_append_drop n s.data.toList
    rw [List.drop_eq_getElem_cons h1, List.drop_of_length_le (by simp; omega)] at this
    exact this.symm
  rw [hl]
  unfold Lib.hasSuffix
  rw [Bool.eq_iff_iff, List.isSuffixOf_iff_suffix]
  constructor
  · rintro ⟨t, ht⟩
    have := List.append_inj_right' ht rfl
    simpa using this.symm
  · intro h
    simp only [beq_iff_eq] at h
    rw [h]
    exact List.suffix_append _ _
theorem suffix_ext (s P : ByteArray) (h : P.size ≤ s.size) : ((s.extract (s.size - P.size) s.size).toList == P.toList) = Lib.hasSuffix s.data.toList P.data.toList := by
  rw [← Lib.hasSuffix_raw]; simp [h]
theorem prefix_ext (s P : ByteArray) (h : P.size ≤ s.size) : ((s.extract 0 P.size).toList == P.toList) = Lib.hasPrefix s.data.toList P.data.toList := by
  rw [← Lib.hasPrefix_raw]; simp [h]
theorem pre_short (l P : List UInt8) (h : l.length < P.length) : Lib.hasPrefix l P = false := by
  unfold Lib.hasPrefix
  rw [Bool.eq_false_iff]
  intro h2
  have := (List.isPrefixOf_iff_prefix.1 h2).length_le
  omega
theorem suf_short (l P : List UInt8) (h : l.length < P.length) : Lib.hasSuffix l P = false := by
  unfold Lib.hasSuffix
  rw [Bool.eq_false_iff]
  intro h2
  have := (List.isSuffixOf_iff_suffix.1 h2).length_le
  omega
theorem head_prefix (s : ByteArray) (c : UInt8) (h : 0 < s.size) : Lib.hasPrefix s.data.toList [c] = (s[0] == c) := by
  obtain ⟨_, hx, _⟩ : ∃ hn : 0 < s.size, s[0] = s[0] ∧ True := ⟨h, rfl, trivial⟩
  have h1 : 0 < s.data.toList.length := by simpa using h
  have : s.data.toList = s[0] :: s.data.toList.drop 1 := by
    have := List.drop_eq_getElem_cons h1
    rw [List.drop_zero] at this
    exact this
  rw [this]
  unfold Lib.hasPrefix
  rw [Bool.eq_iff_iff]
  simp [List.isPrefixOf]
  exact ⟨fun h => h.symm, fun h => h.symm⟩
theorem zero_index (s : List UInt8) (h : Lib.index s [0] = -1) : 0 ∉ s := by
  rcases Lib.index_spec s [0] with ⟨_, h2⟩ | ⟨i, h1, _⟩
  · exact index_byte_none s 0 h2
  · omega

set_option maxRecDepth 100000 in
set_option maxHeartbeats 4000000 in
theorem comments_walk (s more : ByteArray) (w : World) (hsh : Sh w) :
    Calls Tryd.prog 5 #[.string s, .string more] w fun e w' => e = .returned (.bool true) ∧ Below w.heap.size w w' := by
  have HS := Lib.hid hsh
  clear hsh
  by_cases hb : 8192 < s.size
  · have hb' : (8192 : Int) < s.size := by omega
    go_enter Tryd.func5, Tryd.ntmps5
    go_wp2_with fail
    refine (works_calls _ HS.out).mono ?_
    rintro e w1 ⟨rfl, hb1⟩
    have HB1 := Lib.hid hb1
    replace HS := Lib.hid (HS.out.below hb1)
    clear hb1
    go_wp2
    go_ret
    exact ⟨rfl, HB1.out⟩
  have hb' : ¬ ((8192 : Int) < s.size) := by omega
  by_cases hm : 8192 < more.size
  · have hm' : (8192 : Int) < more.size := by omega
    go_enter Tryd.func5, Tryd.ntmps5
    go_wp2_with fail
    refine (works_calls _ HS.out).mono ?_
    rintro e w1 ⟨rfl, hb1⟩
    have HB1 := Lib.hid hb1
    replace HS := Lib.hid (HS.out.below hb1)
    clear hb1
    go_wp2
    go_ret
    exact ⟨rfl, HB1.out⟩
  have hm' : ¬ ((8192 : Int) < more.size) := by omega
  have k0 := fun w => contains_calls s ⟨#[45, 45, 62]⟩ (by omega) (by decide) (by decide) w
  cases hc0 : cb (⟨#[45, 45, 62]⟩ : ByteArray).data.toList s.data.toList with
  | true =>
    rw [hc0] at k0
    have K0 := Lib.hid k0
    clear k0 hc0 
    go_enter Tryd.func5, Tryd.ntmps5
    go_wp2_with fail
    refine (works_calls _ HS.out).mono ?_
    rintro e w1 ⟨rfl, hb1⟩
    have HB1 := Lib.hid hb1
    replace HS := Lib.hid (HS.out.below hb1)
    clear hb1
    go_wp2_with fail
    refine (K0.out _).mono ?_
    rintro e w' ⟨rfl, rfl⟩
    go_wp2
    go_ret
    exact ⟨rfl, HB1.out⟩
  | false =>
  rw [hc0] at k0
  have K0 := Lib.hid k0
  clear k0
  have k1 := fun w => contains_calls s ⟨#[45, 45, 33, 62]⟩ (by omega) (by decide) (by decide) w
  cases hc1 : cb (⟨#[45, 45, 33, 62]⟩ : ByteArray).data.toList s.data.toList with
  | true =>
    rw [hc1] at k1
    have K1 := Lib.hid k1
    clear k1 hc1 hc0
    go_enter Tryd.func5, Tryd.ntmps5
    go_wp2_with fail
    refine (works_calls _ HS.out).mono ?_
    rintro e w1 ⟨rfl, hb1⟩
    have HB1 := Lib.hid hb1
    replace HS := Lib.hid (HS.out.below hb1)
    clear hb1
    go_wp2_with fail
    refine (K0.out _).mono ?_
    rintro e w' ⟨rfl, rfl⟩
    go_wp2_with fail
    refine (K1.out _).mono ?_
    rintro e w' ⟨rfl, rfl⟩
    go_wp2
    go_ret
    exact ⟨rfl, HB1.out⟩
  | false =>
  rw [hc1] at k1
  have K1 := Lib.hid k1
  clear k1
  have k2 := fun w => contains_calls s ⟨#[0]⟩ (by omega) (by decide) (by decide) w
  cases hc2 : cb (⟨#[0]⟩ : ByteArray).data.toList s.data.toList with
  | true =>
    rw [hc2] at k2
    have K2 := Lib.hid k2
    clear k2 hc2 hc0 hc1
    go_enter Tryd.func5, Tryd.ntmps5
    go_wp2_with fail
    refine (works_calls _ HS.out).mono ?_
    rintro e w1 ⟨rfl, hb1⟩
    have HB1 := Lib.hid hb1
    replace HS := Lib.hid (HS.out.below hb1)
    clear hb1
    go_wp2_with fail
    refine (K0.out _).mono ?_
    rintro e w' ⟨rfl, rfl⟩
    go_wp2_with fail
    refine (K1.out _).mono ?_
    rintro e w' ⟨rfl, rfl⟩
    go_wp2_with fail
    refine (K2.out _).mono ?_
    rintro e w' ⟨rfl, rfl⟩
    go_wp2
    go_ret
    exact ⟨rfl, HB1.out⟩
  | false =>
  rw [hc2] at k2
  have K2 := Lib.hid k2
  clear k2
  have hi1 : Lib.index s.data.toList [45, 45, 62] = -1 := cb_no _ _ hc0
  have hi2 : Lib.index s.data.toList [45, 45, 33, 62] = -1 := cb_no _ _ hc1
  have hi0 : 0 ∉ s.data.toList := zero_index _ (cb_no _ _ hc2)
  have HI := Lib.hid (And.intro hi1 (And.intro hi2 hi0))
  have hsl : s.data.toList.length = s.size := by simp
  clear hc0 hc1 hc2 hi1 hi2 hi0
  by_cases h0 : s.size = 0
  · have n0 : ¬ (0 < s.size) := by omega
    have n0' : ¬ ((0 : Int) < s.size) := by omega
    have n1' : ¬ ((1 : Int) < s.size) := by omega
    have n2' : ¬ ((2 : Int) < s.size) := by omega
    have hnil : s.data.toList = [] := List.length_eq_zero_iff.1 (by omega)
    have s45 : Lib.hasSuffix s.data.toList [45] = false := by rw [hnil]; rfl
    have s33 : Lib.hasSuffix s.data.toList [45, 45, 33] = false := by rw [hnil]; rfl
    have p62 : Lib.hasPrefix s.data.toList [62] = false := by rw [hnil]; rfl
    have p4562 : Lib.hasPrefix s.data.toList [45, 62] = false := by rw [hnil]; rfl
    clear hnil h0 n0
    obtain ⟨T, hT⟩ : ∃ T, (((⟨#[45, 45]⟩ : ByteArray) ++ s) ++ ⟨#[45, 45, 62]⟩) ++ more = T := ⟨_, rfl⟩
    have hTl : T.data.toList = 45 :: 45 :: (s.data.toList ++ 45 :: 45 :: 62 :: more.data.toList) := by rw [← hT]; simp
    have hTs : T.size ≤ 268435456 := by
      have : T.size = T.data.toList.length := by simp
      rw [this, hTl]; simp; omega
    have hdc := dcl_comment s.data.toList more.data.toList HI.out.2.2 HI.out.1 HI.out.2.1 s45 s33 p62 p4562
    rw [← hTl, hsl] at hdc
    have DC : Hid (∀ w, Sh w → Calls Tryd.prog 8 #[.string T, .int .i64 0, .bool false] w fun e w' => e = .returned (.tuple #[.agg #[.int .u8 4, .string ⟨#[]⟩, .slice none 0 0, .bool false, .string s, .string ⟨#[]⟩, .string ⟨#[]⟩, .bool false, .bool false, .bool false], .int .i64 ((s.size : Int) + 5), .bool true]) ∧ Below w.heap.size w w') := fun w h =>
      decl_conc T false hTs _ _ _ hdc ((s.size : Int) + 5) (by omega) w h
    have HT := Lib.hid hT
    clear s45 s33 p62 p4562 hdc hTl hT hsl
    go_enter Tryd.func5, Tryd.ntmps5
    go_wp2_with fail
    refine (works_calls _ HS.out).mono ?_
    rintro e w1 ⟨rfl, hb1⟩
    have HB1 := Lib.hid hb1
    replace HS := Lib.hid (HS.out.below hb1)
    clear hb1
    go_wp2_with fail
    refine (K0.out _).mono ?_
    rintro e w' ⟨rfl, rfl⟩
    go_wp2_with fail
    refine (K1.out _).mono ?_
    rintro e w' ⟨rfl, rfl⟩
    go_wp2_with fail
    refine (K2.out _).mono ?_
    rintro e w' ⟨rfl, rfl⟩
    go_wp2_with fail
    rw [HT.out]
    refine (DC.out _ HS.out).mono ?_
    rintro e w2 ⟨rfl, hb2⟩
    have HB2 := Lib.hid (HB1.out.trans (hb2.mono HB1.out.size))
    clear hb2
    go_wp2
    go_ret
    exact ⟨rfl, HB2.out.alloc HB2.out.size _⟩
  obtain ⟨m, hm1⟩ : ∃ m, s.size = m + 1 := ⟨s.size - 1, by omega⟩
  have n0 : 0 < s.size := by omega
  have n0' : (0 : Int) < s.size := by omega
  have q0 : s[0].toNat < 256 := s[0].toNat_lt
  have e0 := byte_eq s[0] 62
  rw [show ((62 : UInt8).toNat : Int) = 62 from rfl] at e0
  have HP0 := head_prefix s 62 n0
  clear h0
  have hlast : s.size - 1 < s.size := by omega
  have el := byte_eq s[s.size - 1] 45
  rw [show ((45 : UInt8).toNat : Int) = 45 from rfl] at el
  have HL : Lib.hasSuffix s.data.toList [45] = (s[s.size - 1] == 45) := last_suffix s (s.size - 1) (by omega)
  clear hm1
  cases b0 : (s[0] == 62) with
  | true =>
    rw [b0] at e0
    clear HP0 el HL b0 hsl
    go_enter Tryd.func5, Tryd.ntmps5
    go_wp2_with fail
    refine (works_calls _ HS.out).mono ?_
    rintro e w1 ⟨rfl, hb1⟩
    have HB1 := Lib.hid hb1
    replace HS := Lib.hid (HS.out.below hb1)
    clear hb1
    go_wp2_with fail
    refine (K0.out _).mono ?_
    rintro e w' ⟨rfl, rfl⟩
    go_wp2_with fail
    refine (K1.out _).mono ?_
    rintro e w' ⟨rfl, rfl⟩
    go_wp2_with fail
    refine (K2.out _).mono ?_
    rintro e w' ⟨rfl, rfl⟩
    go_wp2
    go_ret
    exact ⟨rfl, HB1.out⟩
  | false =>
  rw [b0] at e0 HP0
  cases b1 : (s[s.size - 1] == 45) with
  | true =>
    rw [b1] at el
    clear HP0 HL b0 b1 hsl
    go_enter Tryd.func5, Tryd.ntmps5
    go_wp2_with fail
    refine (works_calls _ HS.out).mono ?_
    rintro e w1 ⟨rfl, hb1⟩
    have HB1 := Lib.hid hb1
    replace HS := Lib.hid (HS.out.below hb1)
    clear hb1
    go_wp2_with fail
    refine (K0.out _).mono ?_
    rintro e w' ⟨rfl, rfl⟩
    go_wp2_with fail
    refine (K1.out _).mono ?_
    rintro e w' ⟨rfl, rfl⟩
    go_wp2_with fail
    refine (K2.out _).mono ?_
    rintro e w' ⟨rfl, rfl⟩
    go_wp2
    go_ret
    exact ⟨rfl, HB1.out⟩
  | false =>
  rw [b1] at el HL
  clear b0 b1
  by_cases h1 : s.size = 1
  · have n1' : ¬ ((1 : Int) < s.size) := by omega
    have n2' : ¬ ((2 : Int) < s.size) := by omega
    have n1 : ¬ (1 < s.size) := by omega
    have n2 : ¬ (2 < s.size) := by omega
    have s45 := HL
    have s33 : Lib.hasSuffix s.data.toList [45, 45, 33] = false := suf_short _ _ (by simp; omega)
    have p62 := HP0
    have p4562 : Lib.hasPrefix s.data.toList [45, 62] = false := pre_short _ _ (by simp; omega)
    clear HL HP0 h1
    obtain ⟨T, hT⟩ : ∃ T, (((⟨#[45, 45]⟩ : ByteArray) ++ s) ++ ⟨#[45, 45, 62]⟩) ++ more = T := ⟨_, rfl⟩
    have hTl : T.data.toList = 45 :: 45 :: (s.data.toList ++ 45 :: 45 :: 62 :: more.data.toList) := by rw [← hT]; simp
    have hTs : T.size ≤ 268435456 := by
      have : T.size = T.data.toList.length := by simp
      rw [this, hTl]; simp; omega
    have hdc := dcl_comment s.data.toList more.data.toList HI.out.2.2 HI.out.1 HI.out.2.1 s45 s33 p62 p4562
    rw [← hTl, hsl] at hdc
    have DC : Hid (∀ w, Sh w → Calls Tryd.prog 8 #[.string T, .int .i64 0, .bool false] w fun e w' => e = .returned (.tuple #[.agg #[.int .u8 4, .string ⟨#[]⟩, .slice none 0 0, .bool false, .string s, .string ⟨#[]⟩, .string ⟨#[]⟩, .bool false, .bool false, .bool false], .int .i64 ((s.size : Int) + 5), .bool true]) ∧ Below w.heap.size w w') := fun w h =>
      decl_conc T false hTs _ _ _ hdc ((s.size : Int) + 5) (by omega) w h
    have HT := Lib.hid hT
    clear s45 s33 p62 p4562 hdc hTl hT hsl
    go_enter Tryd.func5, Tryd.ntmps5
    go_wp2_with fail
    refine (works_calls _ HS.out).mono ?_
    rintro e w1 ⟨rfl, hb1⟩
    have HB1 := Lib.hid hb1
    replace HS := Lib.hid (HS.out.below hb1)
    clear hb1
    go_wp2_with fail
    refine (K0.out _).mono ?_
    rintro e w' ⟨rfl, rfl⟩
    go_wp2_with fail
    refine (K1.out _).mono ?_
    rintro e w' ⟨rfl, rfl⟩
    go_wp2_with fail
    refine (K2.out _).mono ?_
    rintro e w' ⟨rfl, rfl⟩
    go_wp2_with fail
    rw [HT.out]
    refine (DC.out _ HS.out).mono ?_
    rintro e w2 ⟨rfl, hb2⟩
    have HB2 := Lib.hid (HB1.out.trans (hb2.mono HB1.out.size))
    clear hb2
    go_wp2
    go_ret
    exact ⟨rfl, HB2.out.alloc HB2.out.size _⟩
  have n1 : 1 < s.size := by omega
  have n1' : (1 : Int) < s.size := by omega
  have n1x : 2 ≤ s.size := by omega
  have e2 := prefix_ext s ⟨#[45, 62]⟩ n1x
  rw [show (⟨#[45, 62]⟩ : ByteArray).size = 2 from rfl] at e2
  clear h1
  have e2' : ((s.extract 0 2).toList == [45, 62]) = Lib.hasPrefix s.data.toList [45, 62] := by
    rw [← e2 ]; rw [Lib.toList_data (⟨#[45, 62]⟩ : ByteArray)]
  clear e2
  cases b2 : Lib.hasPrefix s.data.toList [45, 62] with
  | true =>
    rw [b2] at e2'
    clear HP0 HL b2 hsl
    go_enter Tryd.func5, Tryd.ntmps5
    go_wp2_with fail
    refine (works_calls _ HS.out).mono ?_
    rintro e w1 ⟨rfl, hb1⟩
    have HB1 := Lib.hid hb1
    replace HS := Lib.hid (HS.out.below hb1)
    clear hb1
    go_wp2_with fail
    refine (K0.out _).mono ?_
    rintro e w' ⟨rfl, rfl⟩
    go_wp2_with fail
    refine (K1.out _).mono ?_
    rintro e w' ⟨rfl, rfl⟩
    go_wp2_with fail
    refine (K2.out _).mono ?_
    rintro e w' ⟨rfl, rfl⟩
    go_wp2
    go_ret
    exact ⟨rfl, HB1.out⟩
  | false =>
  rw [b2] at e2'
  by_cases h2 : s.size = 2
  · have n2' : ¬ ((2 : Int) < s.size) := by omega
    have n2 : ¬ (2 < s.size) := by omega
    have s45 := HL
    have s33 : Lib.hasSuffix s.data.toList [45, 45, 33] = false := suf_short _ _ (by simp; omega)
    have p62 := HP0
    have p4562 := b2
    clear HL HP0 h2 b2
    obtain ⟨T, hT⟩ : ∃ T, (((⟨#[45, 45]⟩ : ByteArray) ++ s) ++ ⟨#[45, 45, 62]⟩) ++ more = T := ⟨_, rfl⟩
    have hTl : T.data.toList = 45 :: 45 :: (s.data.toList ++ 45 :: 45 :: 62 :: more.data.toList) := by rw [← hT]; simp
    have hTs : T.size ≤ 268435456 := by
      have : T.size = T.data.toList.length := by simp
      rw [this, hTl]; simp; omega
    have hdc := dcl_comment s.data.toList more.data.toList HI.out.2.2 HI.out.1 HI.out.2.1 s45 s33 p62 p4562
    rw [← hTl, hsl] at hdc
    have DC : Hid (∀ w, Sh w → Calls Tryd.prog 8 #[.string T, .int .i64 0, .bool false] w fun e w' => e = .returned (.tuple #[.agg #[.int .u8 4, .string ⟨#[]⟩, .slice none 0 0, .bool false, .string s, .string ⟨#[]⟩, .string ⟨#[]⟩, .bool false, .bool false, .bool false], .int .i64 ((s.size : Int) + 5), .bool true]) ∧ Below w.heap.size w w') := fun w h =>
      decl_conc T false hTs _ _ _ hdc ((s.size : Int) + 5) (by omega) w h
    have HT := Lib.hid hT
    clear s45 s33 p62 p4562 hdc hTl hT hsl
    go_enter Tryd.func5, Tryd.ntmps5
    go_wp2_with fail
    refine (works_calls _ HS.out).mono ?_
    rintro e w1 ⟨rfl, hb1⟩
    have HB1 := Lib.hid hb1
    replace HS := Lib.hid (HS.out.below hb1)
    clear hb1
    go_wp2_with fail
    refine (K0.out _).mono ?_
    rintro e w' ⟨rfl, rfl⟩
    go_wp2_with fail
    refine (K1.out _).mono ?_
    rintro e w' ⟨rfl, rfl⟩
    go_wp2_with fail
    refine (K2.out _).mono ?_
    rintro e w' ⟨rfl, rfl⟩
    go_wp2_with fail
    rw [HT.out]
    refine (DC.out _ HS.out).mono ?_
    rintro e w2 ⟨rfl, hb2⟩
    have HB2 := Lib.hid (HB1.out.trans (hb2.mono HB1.out.size))
    clear hb2
    go_wp2
    go_ret
    exact ⟨rfl, HB2.out.alloc HB2.out.size _⟩
  have n2 : 2 < s.size := by omega
  have n2' : (2 : Int) < s.size := by omega
  have n2x : 3 ≤ s.size := by omega
  have e3 := suffix_ext s ⟨#[45, 45, 33]⟩ n2x
  rw [show (⟨#[45, 45, 33]⟩ : ByteArray).size = 3 from rfl] at e3
  clear h2
  have e3' : ((s.extract (s.size - 3) s.size).toList == [45, 45, 33]) = Lib.hasSuffix s.data.toList [45, 45, 33] := by
    rw [← e3]; rw [Lib.toList_data (⟨#[45, 45, 33]⟩ : ByteArray)]
  clear e3
  cases b3 : Lib.hasSuffix s.data.toList [45, 45, 33] with
  | true =>
    rw [b3] at e3'
    clear HP0 HL b2 b3 hsl
    go_enter Tryd.func5, Tryd.ntmps5
    go_wp2_with fail
    refine (works_calls _ HS.out).mono ?_
    rintro e w1 ⟨rfl, hb1⟩
    have HB1 := Lib.hid hb1
    replace HS := Lib.hid (HS.out.below hb1)
    clear hb1
    go_wp2_with fail
    refine (K0.out _).mono ?_
    rintro e w' ⟨rfl, rfl⟩
    go_wp2_with fail
    refine (K1.out _).mono ?_
    rintro e w' ⟨rfl, rfl⟩
    go_wp2_with fail
    refine (K2.out _).mono ?_
    rintro e w' ⟨rfl, rfl⟩
    go_wp2
    go_ret
    exact ⟨rfl, HB1.out⟩
  | false =>
  rw [b3] at e3'
  have s45 := HL
  have s33 := b3
  have p62 := HP0
  have p4562 := b2
  clear HL HP0 b2 b3
  obtain ⟨T, hT⟩ : ∃ T, (((⟨#[45, 45]⟩ : ByteArray) ++ s) ++ ⟨#[45, 45, 62]⟩) ++ more = T := ⟨_, rfl⟩
  have hTl : T.data.toList = 45 :: 45 :: (s.data.toList ++ 45 :: 45 :: 62 :: more.data.toList) := by rw [← hT]; simp
  have hTs : T.size ≤ 268435456 := by
    have : T.size = T.data.toList.length := by simp
    rw [this, hTl]; simp; omega
  have hdc := dcl_comment s.data.toList more.data.toList HI.out.2.2 HI.out.1 HI.out.2.1 s45 s33 p62 p4562
  rw [← hTl, hsl] at hdc
  have DC : Hid (∀ w, Sh w → Calls Tryd.prog 8 #[.string T, .int .i64 0, .bool false] w fun e w' => e = .returned (.tuple #[.agg #[.int .u8 4, .string ⟨#[]⟩, .slice none 0 0, .bool false, .string s, .string ⟨#[]⟩, .string ⟨#[]⟩, .bool false, .bool false, .bool false], .int .i64 ((s.size : Int) + 5), .bool true]) ∧ Below w.heap.size w w') := fun w h =>
    decl_conc T false hTs _ _ _ hdc ((s.size : Int) + 5) (by omega) w h
  have HT := Lib.hid hT
  clear s45 s33 p62 p4562 hdc hTl hT hsl
  go_enter Tryd.func5, Tryd.ntmps5
  go_wp2_with fail
  refine (works_calls _ HS.out).mono ?_
  rintro e w1 ⟨rfl, hb1⟩
  have HB1 := Lib.hid hb1
  replace HS := Lib.hid (HS.out.below hb1)
  clear hb1
  go_wp2_with fail
  refine (K0.out _).mono ?_
  rintro e w' ⟨rfl, rfl⟩
  go_wp2_with fail
  refine (K1.out _).mono ?_
  rintro e w' ⟨rfl, rfl⟩
  go_wp2_with fail
  refine (K2.out _).mono ?_
  rintro e w' ⟨rfl, rfl⟩
  go_wp2_with fail
  rw [HT.out]
  refine (DC.out _ HS.out).mono ?_
  rintro e w2 ⟨rfl, hb2⟩
  have HB2 := Lib.hid (HB1.out.trans (hb2.mono HB1.out.size))
  clear hb2
  go_wp2
  go_ret
  exact ⟨rfl, HB2.out.alloc HB2.out.size _⟩
end Go.Proofs.YtileclmmobkcaaaDoor
