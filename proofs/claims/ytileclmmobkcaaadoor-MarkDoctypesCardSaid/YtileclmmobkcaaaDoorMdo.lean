/-
  The walk of lacunalaw04.MarkDoctypes: it returns true. The condition: MaxLen holds some number.
-/
import Derived.Test.YtileclmmobkcaaaDoorMwk
set_option linter.unusedVariables false
namespace Go.Proofs.YtileclmmobkcaaaDoor
open Go.RowKit Go.Shelf

theorem all_take {s : ByteArray} {P : UInt8 → Prop} {p : Nat} (hp : p < s.size) (h : ∀ c ∈ s.data.toList.take p, P c) (h2 : P s[p]) : ∀ c ∈ s.data.toList.take (p + 1), P c := by
  intro c hc
  rw [List.take_succ_eq_append_getElem (by simpa using hp)] at hc
  rcases List.mem_append.1 hc with h3 | h3
  · exact h c h3
  · rw [List.mem_singleton] at h3
    rw [h3]; exact h2
theorem all_whole {s : ByteArray} {P : UInt8 → Prop} (h : ∀ c ∈ s.data.toList.take s.size, P c) : ∀ c ∈ s.data.toList, P c := by
  rwa [List.take_of_length_le (by simp)] at h

set_option maxRecDepth 100000 in
set_option maxHeartbeats 4000000 in
theorem doctypes_walk (name pub sys : ByteArray) (w : World) (hsh : Sh w) :
    Calls Tryd.prog 6 #[.string name, .string pub, .string sys] w fun e w' => e = .returned (.bool true) ∧ Below w.heap.size w w' := by
  have HS := Lib.hid hsh
  clear hsh
  by_cases h0 : name.size = 0
  · have n0 : (name.size == 0) = true := by simp [h0]
    have n0' : ((name.size : Int) == 0) = true := by simp [h0]
    clear h0
    go_enter Tryd.func6, Tryd.ntmps6
    go_wp2_with fail
    refine (works_calls _ HS.out).mono ?_
    rintro e w1 ⟨rfl, hb1⟩
    have HB1 := Lib.hid hb1
    clear hb1
    go_wp2
    go_ret
    exact ⟨rfl, HB1.out⟩
  have n0 : (name.size == 0) = false := by simp [h0]
  have n0' : ((name.size : Int) == 0) = false := by simp [h0]
  by_cases h1 : 8192 < name.size
  · have h1' : (8192 : Int) < name.size := by omega
    clear h0
    go_enter Tryd.func6, Tryd.ntmps6
    go_wp2_with fail
    refine (works_calls _ HS.out).mono ?_
    rintro e w1 ⟨rfl, hb1⟩
    have HB1 := Lib.hid hb1
    clear hb1
    go_wp2
    go_ret
    exact ⟨rfl, HB1.out⟩
  have h1' : ¬ ((8192 : Int) < name.size) := by omega
  by_cases h2 : 8192 < pub.size
  · have h2' : (8192 : Int) < pub.size := by omega
    clear h0
    go_enter Tryd.func6, Tryd.ntmps6
    go_wp2_with fail
    refine (works_calls _ HS.out).mono ?_
    rintro e w1 ⟨rfl, hb1⟩
    have HB1 := Lib.hid hb1
    clear hb1
    go_wp2
    go_ret
    exact ⟨rfl, HB1.out⟩
  have h2' : ¬ ((8192 : Int) < pub.size) := by omega
  by_cases h3 : 8192 < sys.size
  · have h3' : (8192 : Int) < sys.size := by omega
    clear h0
    go_enter Tryd.func6, Tryd.ntmps6
    go_wp2_with fail
    refine (works_calls _ HS.out).mono ?_
    rintro e w1 ⟨rfl, hb1⟩
    have HB1 := Lib.hid hb1
    clear hb1
    go_wp2
    go_ret
    exact ⟨rfl, HB1.out⟩
  have h3' : ¬ ((8192 : Int) < sys.size) := by omega
  have HN0 := Lib.hid h0
  clear h0
  go_enter Tryd.func6, Tryd.ntmps6
  go_wp2_with fail
  refine (works_calls _ HS.out).mono ?_
  rintro e w1 ⟨rfl, hb1⟩
  have HB1 := Lib.hid hb1
  replace HS := Lib.hid (HS.out.below hb1)
  clear hb1
  go_wp2
  go_loop [8] (fun v => ∃ p : Nat, v = .int .i64 p ∧ p ≤ name.size ∧ Hid (∀ c ∈ name.data.toList.take p, 97 ≤ c.toNat ∧ c.toNat ≤ 122)) (fun v => name.size - (intOf v).toNat)
  case atStart => exact ⟨0, rfl, Nat.zero_le _, by intro c hc; simp at hc⟩
  case round =>
    obtain ⟨p, rfl, hp, HA⟩ := hrel
    by_cases hlt : p < name.size
    · have hlt' : (p : Int) < name.size := by omega
      have hcc : (name[p].toNat : Int) < 256 := by have := name[p].toNat_lt; omega
      by_cases hlo : (name[p].toNat : Int) < 97
      · go_wp2
        go_ret
        exact ⟨rfl, HB1.out⟩
      by_cases hhi : (122 : Int) < (name[p].toNat : Int)
      · go_wp2
        go_ret
        exact ⟨rfl, HB1.out⟩
      have HA2 : Hid (∀ c ∈ name.data.toList.take (p + 1), 97 ≤ c.toNat ∧ c.toNat ≤ 122) := all_take hlt HA.out ⟨by omega, by omega⟩
      go_wp2
      go_round
      case rel => exact ⟨p + 1, by go_num, by omega, HA2.out⟩
      case measure => simp [intOf]; omega
    · have hpe : p = name.size := by omega
      have hlt' : ¬ ((p : Int) < name.size) := by omega
      have HN : Hid (∀ c ∈ name.data.toList, 97 ≤ c.toNat ∧ c.toNat ≤ 122) := all_whole (by rw [← hpe]; exact HA.out)
      clear hpe HA
      go_wp2
      go_loop [10] (fun v => ∃ q : Nat, v = .int .i64 q ∧ q ≤ (pub ++ sys).size ∧ Hid (∀ c ∈ (pub ++ sys).data.toList.take q, c ≠ 0 ∧ c ≠ 34 ∧ c ≠ 62)) (fun v => (pub ++ sys).size - (intOf v).toNat)
      case atStart => exact ⟨0, rfl, Nat.zero_le _, by intro c hc; simp at hc⟩
      case round =>
        obtain ⟨q, rfl, hq, HA⟩ := hrel
        have hbs : (pub ++ sys).size ≤ 16384 := by simp; omega
        have HPZ : Hid ((pub ++ sys).size = pub.size + sys.size) := by unfold Hid; simp
        by_cases hqt : q < (pub ++ sys).size
        · have hqt' : (q : Int) < (pub ++ sys).size := by omega
          have hqt2 : (q : Int) < (pub.size : Int) + (sys.size : Int) := by have := HPZ.out; omega
          have hcc : ((pub ++ sys)[q].toNat : Int) < 256 := by have := (pub ++ sys)[q].toNat_lt; omega
          have e0 := byte_eq (pub ++ sys)[q] 0
          have e34 := byte_eq (pub ++ sys)[q] 34
          have e62 := byte_eq (pub ++ sys)[q] 62
          rw [show ((0 : UInt8).toNat : Int) = 0 from rfl] at e0
          rw [show ((34 : UInt8).toNat : Int) = 34 from rfl] at e34
          rw [show ((62 : UInt8).toNat : Int) = 62 from rfl] at e62
          have hall : (pub ++ sys)[q] ≠ 0 → (pub ++ sys)[q] ≠ 34 → (pub ++ sys)[q] ≠ 62 → Hid (∀ c ∈ (pub ++ sys).data.toList.take (q + 1), c ≠ 0 ∧ c ≠ 34 ∧ c ≠ 62) := fun a b c => all_take hqt HA.out ⟨a, b, c⟩
          cases b0 : ((pub ++ sys)[q] == 0) with
          | true =>
            have z0 : (pub ++ sys)[q].toNat = 0 := by have : (pub ++ sys)[q] = 0 := by simpa using b0
                                                      rw [this]; rfl
            clear e0 e34 e62 b0 hall hcc
            go_wp2
            go_ret
            exact ⟨rfl, HB1.out⟩
          | false =>
            rw [b0] at e0
            cases b34 : ((pub ++ sys)[q] == 34) with
            | true =>
              rw [b34] at e34
              clear e62 b0 b34 hall
              go_wp2
              go_ret
              exact ⟨rfl, HB1.out⟩
            | false =>
              rw [b34] at e34
              cases b62 : ((pub ++ sys)[q] == 62) with
              | true =>
                rw [b62] at e62
                clear b0 b34 b62 hall
                go_wp2
                go_ret
                exact ⟨rfl, HB1.out⟩
              | false =>
                rw [b62] at e62
                have HA2 := hall (by simpa using b0) (by simpa using b34) (by simpa using b62)
                clear b0 b34 b62 hall
                go_wp2
                go_round
                case rel => exact ⟨q + 1, by go_num, by omega, HA2.out⟩
                case measure => simp [intOf]; omega
        · have hqe : q = (pub ++ sys).size := by omega
          have hqt' : ¬ ((q : Int) < (pub ++ sys).size) := by omega
          have hqt2 : ¬ ((q : Int) < (pub.size : Int) + (sys.size : Int)) := by have := HPZ.out; omega
          have HPS : ∀ c ∈ (pub ++ sys).data.toList, c ≠ 0 ∧ c ≠ 34 ∧ c ≠ 62 := all_whole (by rw [← hqe]; exact HA.out)
          have eps : (pub ++ sys).data.toList = pub.data.toList ++ sys.data.toList := by simp
          rw [eps] at HPS
          obtain ⟨T, hT⟩ : ∃ T, ((((((⟨#[68, 111, 99, 84, 121, 112, 101, 32]⟩ : ByteArray) ++ name) ++ ⟨#[32, 80, 85, 66, 76, 73, 67, 32, 34]⟩) ++ pub) ++ ⟨#[34, 32, 34]⟩) ++ sys) ++ ⟨#[34, 62]⟩ = T := ⟨_, rfl⟩
          have hTl : T.data.toList = [68, 111, 99, 84, 121, 112, 101, 32] ++ name.data.toList ++ [32, 80, 85, 66, 76, 73, 67, 32, 34] ++ pub.data.toList ++ [34, 32, 34] ++ sys.data.toList ++ [34, 62] := by rw [← hT]; simp
          have hTs0 : T.size = T.data.toList.length := by simp
          have hTs1 : T.size = name.data.toList.length + pub.data.toList.length + sys.data.toList.length + 22 := by rw [hTs0, hTl]; simp; omega
          have hTs : T.size ≤ 268435456 := by rw [hTs1]; simp; omega
          have hnn : name.data.toList ≠ [] := by
            intro e
            apply HN0.out
            have := congrArg List.length e
            simpa using this
          have hdc := dcl_doctype name.data.toList pub.data.toList sys.data.toList hnn HN.out (fun c hc => HPS c (List.mem_append_left _ hc)) (fun c hc => HPS c (List.mem_append_right _ hc))
          rw [← hTl] at hdc
          have DC : Hid (∀ w, Sh w → Calls Tryd.prog 8 #[.string T, .int .i64 0, .bool false] w fun e w' => e = .returned (.tuple #[.agg #[.int .u8 5, .string name, .slice none 0 0, .bool false, .string ⟨#[]⟩, .string pub, .string sys, .bool true, .bool true, .bool false], .int .i64 (T.size : Int), .bool true]) ∧ Below w.heap.size w w') := fun w h =>
            decl_conc T false hTs _ _ _ hdc (T.size : Int) (by rw [hTs1]) w h
          have HT := Lib.hid hT
          clear hqe HA HPS eps hdc hTl hT hTs0 hTs1 hnn
          go_wp2_with fail
          rw [HT.out]
          refine (DC.out _ HS.out).mono ?_
          rintro e w2 ⟨rfl, hb2⟩
          have HB2 := Lib.hid (HB1.out.trans (hb2.mono HB1.out.size))
          clear hb2
          go_wp2
          go_ret
          exact ⟨rfl, HB2.out.alloc HB2.out.size _⟩
end Go.Proofs.YtileclmmobkcaaaDoor
