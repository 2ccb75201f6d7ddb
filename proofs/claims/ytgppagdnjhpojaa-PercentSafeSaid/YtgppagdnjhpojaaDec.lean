/-
  Contracts of strings.Cut at a text of one byte, percent.Decode and lacunaref10.Decode. The condition: the text takes fewer than 4294967281 bytes.
-/
import Derived.Test.YtgppagdnjhpojaaRet
import Derived.Test.YtgppagdnjhpojaaHex
import Derived.Test.YtgppagdnjhpojaaBld
import Derived.Test.YtgppagdnjhpojaaByt
import Derived.BigQuiet
import Derived.Deep.QuietTactic
set_option linter.unusedVariables false
namespace Go.Proofs.Ytgppagdnjhpojaa
open Go.RowKit

/-- The library's variable MaxLen holds some number. -/
def Sh (w : World) : Prop := ∃ m, w.cell? ⟨0, 0, none⟩ = some (.int .i64 m)
theorem Sh.below {w w' : World} (h : Sh w) (hb : Below w.heap.size w w') : Sh w' := by
  obtain ⟨m, hm⟩ := h
  refine ⟨m, ?_⟩
  rw [hb.cell (p := ⟨0, 0, none⟩)]
  · exact hm
  · rcases Nat.lt_or_ge 0 w.heap.size with h | h
    · exact h
    · simp [World.cell?, Array.getElem?_eq_none h] at hm
theorem sh_of_shaped {w : World} (h : w.ShapedOpen Try.prog) : Sh w := Lb.Mn145.s1_3 w h
theorem below_drewN {B : Nat} {w0 w : World} (h : Below B w0 w) (n : Nat) : Below B w0 (w.drewN n) := ⟨h.os, h.tape, h.output, h.size, h.block⟩
theorem Bd.drewN {B b : Nat} {l : List UInt8} {w : World} (h : Bd B b l w) (n : Nat) : Bd B b l (w.drewN n) := h

theorem cut_miss (s : ByteArray) (c : UInt8) (w : World) (hsh : Sh w) (hs : s.size < 4294967281) (h : c ∉ s.data.toList) :
    Calls Try.prog 19 #[.string s, .string ⟨#[c]⟩] w fun e w' => e = .returned (.tuple #[.string s, .string ⟨#[]⟩, .bool false]) ∧ ∃ n, w' = w.drewN n := by
  obtain ⟨m, hm⟩ := hsh
  refine (Any.strings_Cut { Lb.Mn145 with } s ⟨#[c]⟩ m w hs hm).mono ?_
  rintro e w' ⟨rfl, hw⟩
  refine ⟨?_, hw⟩
  rcases cut_one s.data.toList c with ⟨_, h2⟩ | ⟨a, r, h1, _, _⟩
  · have h2' : Lib.cut s.data.toList (⟨#[c]⟩ : ByteArray).data.toList = (s.data.toList, [], false) := h2
    rw [h2', Lib.mk_data]
  · exact absurd (by rw [h1]; simp) h

theorem cut_hit (s : ByteArray) (c : UInt8) (w : World) (hsh : Sh w) (hs : s.size < 4294967281) (h : c ∈ s.data.toList) :
    Calls Try.prog 19 #[.string s, .string ⟨#[c]⟩] w fun e w' => ∃ a r : ByteArray, e = .returned (.tuple #[.string a, .string r, .bool true]) ∧ (s.data.toList = a.data.toList ++ c :: r.data.toList ∧ c ∉ a.data.toList) ∧ ∃ n, w' = w.drewN n := by
  obtain ⟨m, hm⟩ := hsh
  refine (Any.strings_Cut { Lb.Mn145 with } s ⟨#[c]⟩ m w hs hm).mono ?_
  rintro e w' ⟨rfl, hw⟩
  rcases cut_one s.data.toList c with ⟨h1, _⟩ | ⟨a, r, h1, h2, h3⟩
  · exact absurd h h1
  · have h3' : Lib.cut s.data.toList (⟨#[c]⟩ : ByteArray).data.toList = (a, r, true) := h3
    rw [h3']
    exact ⟨⟨a.toArray⟩, ⟨r.toArray⟩, rfl, ⟨by simpa using h1, by simpa using h2⟩, hw⟩

theorem or16 (a b : Int) (a0 : 0 ≤ a) (a1 : a ≤ 15) (b0 : 0 ≤ b) (b1 : b ≤ 15) : bits .or .i64 (a * 16) b % 256 = a * 16 + b := by
  have key : ∀ x y : Fin 16, bits .or .i64 ((x.1 : Int) * 16) (y.1 : Int) % 256 = (x.1 : Int) * 16 + y.1 := by decide +kernel
  have := key ⟨a.toNat, by omega⟩ ⟨b.toNat, by omega⟩
  simpa [Int.toNat_of_nonneg a0, Int.toNat_of_nonneg b0] using this
theorem two_bytes (r : ByteArray) (h : 2 ≤ r.size) : r.data.toList = r[0] :: r[1] :: r.data.toList.drop 2 := by
  have h0 : 0 < r.data.toList.length := by simp; omega
  have h1 : 1 < r.data.toList.length := by simp; omega
  have := List.drop_eq_getElem_cons h0
  rw [List.drop_zero] at this
  rw [this, List.drop_eq_getElem_cons h1]
  rfl
def strLen : Value → Nat
  | .string s => s.size
  | _ => 0


set_option maxRecDepth 100000 in
set_option maxHeartbeats 1000000 in
theorem decode_calls (s : ByteArray) (w : World) (hs : s.size < 4294967281) (hsh : Sh w) :
    Calls Try.prog 12 #[.string s] w fun e w' => e = .returned (.string ⟨(dec s.data.toList).toArray⟩) ∧ Below w.heap.size w w' := by
  go_enter Try.func12, Try.ntmps12
  go_wp2
  go_loopw [0] (fun v wr => ∃ (t : ByteArray) (acc : List UInt8), v = .string t ∧ Bd w.heap.size w.heap.size acc wr ∧ Below w.heap.size w wr ∧ Hid (acc ++ dec t.data.toList = dec s.data.toList) ∧ acc.length + t.size ≤ s.size) (fun v _ => strLen v)
  case atStart => exact ⟨s, [], rfl, Bd.fresh w, (Below.refl _ w).alloc (Nat.le_refl _) _, rfl, by simp⟩
  case round =>
    obtain ⟨t, acc, rfl, hB, hb, HD, hlen⟩ := hrel
    have hsz := hb.size
    have hshr : Sh wr := hsh.below hb
    by_cases hc : (37 : UInt8) ∈ t.data.toList
    · go_wp2_with (go_at_call 19; refine (cut_hit t 37 _ hshr (by omega) hc).mono ?_)
      rintro e w1 ⟨a, r, rfl, hcut, n, rfl⟩
      have HC := Lib.hid hcut
      clear hcut
      have hal : a.size + 1 + r.size = t.size := by
        have := congrArg List.length HC.out.1
        simp at this
        omega
      go_wp2_with fail
      refine (writeString_calls w.heap.size w.heap.size acc a _ (hB.drewN n) (by omega) hsz).mono ?_
      rintro e w2 ⟨rfl, hB2, hb2⟩
      have hb3 := (below_drewN hb n).trans hb2
      have hsz3 := hb3.size
      clear hB hb2
      by_cases h2 : r.size < 2
      · have h2b : decide (2 ≤ (r.size : Int)) = false := by simp; omega
        go_wp2_with fail
        refine (writeByte_calls w.heap.size w.heap.size _ 37 _ hB2 (by simp; omega) hsz3 (by omega) (by omega)).mono ?_
        rintro e w4 ⟨rfl, hB4, hb4⟩
        go_wp2
        go_roundw
        case rel =>
          refine ⟨r, _, rfl, hB4, hb3.trans hb4, ?_, by simp; omega⟩
          unfold Hid
          rw [← HD.out, HC.out.1, dec_pass _ _ HC.out.2, dec_short _ (by simpa using h2)]
          simp
        case measure => simp [strLen]; omega
      · have h2' : 2 ≤ r.size := by omega
        have h2b : decide (2 ≤ (r.size : Int)) = true := by simp; omega
        have q0 : 0 < r.size := by omega
        have q1 : 1 < r.size := by omega
        have q2 : (1 : Int) < r.size := by omega
        have hx0 : (r[0].toNat : Int) < 256 := by have := r[0].toNat_lt; omega
        have hx1 : (r[1].toNat : Int) < 256 := by have := r[1].toNat_lt; omega
        have HR : Hid (r.data.toList = r[0] :: r[1] :: r.data.toList.drop 2) := two_bytes r h2'
        have hv0 := hexv_range r[0].toNat
        have hv1 := hexv_range r[1].toNat
        by_cases hv : 0 ≤ hexv r[0].toNat ∧ 0 ≤ hexv r[1].toNat
        · obtain ⟨p0, p1⟩ := hv
          go_wp2_with fail
          go_quiet ((go_at_call 21; exact Calls.quiet_of_same ((hex_calls _ _ (by omega) (by omega)).mono fun _ _ h => ⟨h.1, h.2.symm⟩)))
          go_wp2_with fail
          refine (writeByte_calls w.heap.size w.heap.size _ _ _ (hB2.drewN nq) (by simp; omega) hsz3 (by rw [or16 _ _ p0 hv0.2 p1 hv1.2]; omega) (by rw [or16 _ _ p0 hv0.2 p1 hv1.2]; omega)).mono ?_
          rw [or16 _ _ p0 hv0.2 p1 hv1.2]
          rintro e w4 ⟨rfl, hB4, hb4⟩
          go_wp2
          go_roundw
          case rel =>
            refine ⟨r.extract 2 r.size, _, rfl, hB4, (below_drewN hb3 nq).trans hb4, ?_, by simp; omega⟩
            unfold Hid
            rw [← HD.out, HC.out.1, dec_pass _ _ HC.out.2, HR.out, dec_hit _ _ _ p0 p1, Lib.extract_to_end, List.append_assoc, List.append_assoc]
            rfl
          case measure => simp [strLen]; omega
        · by_cases p0 : 0 ≤ hexv r[0].toNat
          · have p1 : hexv r[1].toNat < 0 := by omega
            have HH := Lib.hid hv
            clear hv
            go_wp2_with fail
            go_quiet ((go_at_call 21; exact Calls.quiet_of_same ((hex_calls _ _ (by omega) (by omega)).mono fun _ _ h => ⟨h.1, h.2.symm⟩)))
            go_wp2_with fail
            refine (writeByte_calls w.heap.size w.heap.size _ 37 _ (hB2.drewN nq) (by simp; omega) hsz3 (by omega) (by omega)).mono ?_
            rintro e w4 ⟨rfl, hB4, hb4⟩
            go_wp2
            go_roundw
            case rel =>
              refine ⟨r, _, rfl, hB4, (below_drewN hb3 nq).trans hb4, ?_, by simp; omega⟩
              unfold Hid
              rw [← HD.out, HC.out.1, dec_pass _ _ HC.out.2, HR.out, dec_miss _ _ _ HH.out, List.append_assoc, List.append_assoc]
              rfl
            case measure => simp [strLen]; omega
          · have p0' : hexv r[0].toNat < 0 := by omega
            have HH := Lib.hid hv
            clear hv p0
            go_wp2_with fail
            go_quiet ((go_at_call 21; exact Calls.quiet_of_same ((hex_calls _ _ (by omega) (by omega)).mono fun _ _ h => ⟨h.1, h.2.symm⟩)))
            go_wp2_with fail
            refine (writeByte_calls w.heap.size w.heap.size _ 37 _ (hB2.drewN nq) (by simp; omega) hsz3 (by omega) (by omega)).mono ?_
            rintro e w4 ⟨rfl, hB4, hb4⟩
            go_wp2
            go_roundw
            case rel =>
              refine ⟨r, _, rfl, hB4, (below_drewN hb3 nq).trans hb4, ?_, by simp; omega⟩
              unfold Hid
              rw [← HD.out, HC.out.1, dec_pass _ _ HC.out.2, HR.out, dec_miss _ _ _ HH.out, List.append_assoc, List.append_assoc]
              rfl
            case measure => simp [strLen]; omega
    · go_wp2_with (go_at_call 19; refine (cut_miss t 37 _ hshr (by omega) hc).mono ?_)
      rintro e w1 ⟨rfl, n, rfl⟩
      go_wp2_with fail
      refine (writeString_calls w.heap.size w.heap.size acc t _ (hB.drewN n) (by omega) hsz).mono ?_
      rintro e w2 ⟨rfl, hB2, hb2⟩
      have hb3 := (below_drewN hb n).trans hb2
      have hsz3 := hb3.size
      go_wp2_with fail
      refine (string_calls w.heap.size w.heap.size _ _ hB2 hsz3).mono ?_
      rintro e w3 ⟨rfl, hb4⟩
      go_wp2
      go_ret
      refine ⟨ret_str ?_, hb3.trans hb4⟩
      rw [← HD.out, dec_none _ hc]

/-- What is decoded up to a place, and the bytes from there on. -/
theorem drop_cons (s : ByteArray) (k : Nat) (h : k < s.size) : s.data.toList.drop k = s[k] :: s.data.toList.drop (k + 1) := by
  rw [List.drop_eq_getElem_cons (by simpa using h)]; rfl

theorem new_cell1 (w : World) (x : Int) (h0 : 0 ≤ x) (h1 : x < 256) : ∀ j u, (Lib.byteCells [x.toNat.toUInt8])[j]? = some u → (w.alloc (.cells #[.int .u8 x] 5)).cell? ((⟨w.heap.size, 0, none⟩ : Addr).add j) = some u := by
  have := new_cells w [x.toNat.toUInt8]
  have e : Lib.byteCells [x.toNat.toUInt8] = [.int .u8 x] := by
    simp [Lib.byteCells]
    omega
  rw [e] at this ⊢
  exact this

theorem wrap16 (a b : Int) (a0 : 0 ≤ a) (a1 : a ≤ 15) (b0 : 0 ≤ b) (b1 : b ≤ 15) : (a * 16 + b) % 256 = a * 16 + b := by omega

set_option maxRecDepth 100000 in
set_option maxHeartbeats 2000000 in
theorem refDecode_calls (s : ByteArray) (w : World) (hs : s.size < 4294967281) :
    Calls Try.prog 13 #[.string s] w fun e w' => e = .returned (.string ⟨(dec s.data.toList).toArray⟩) ∧ Below w.heap.size w w' := by
  go_enter Try.func13, Try.ntmps13
  go_wp2
  go_loopw [3, 4] (fun v i wr => ∃ (k : Nat) (acc : List UInt8), k ≤ s.size ∧ i = .int .i64 k ∧ Own w.heap.size v acc wr ∧ Below w.heap.size w wr ∧ Hid (acc ++ dec (s.data.toList.drop k) = dec s.data.toList) ∧ acc.length ≤ k) (fun _ i _ => s.size - (intOf i).toNat)
  case atStart => exact ⟨0, [], Nat.zero_le _, rfl, Own.nil _ _, Below.refl _ w, by simp [Hid], by simp⟩
  case round =>
    obtain ⟨k, acc, hk, rfl, hB, hb, HD, hlen⟩ := hrel
    have hsz := hb.size
    by_cases hlt : k < s.size
    · have HC := Lib.hid (drop_cons s k hlt)
      have hx : (s[k].toNat : Int) < 256 := by have := s[k].toNat_lt; omega
      by_cases hp : s[k] = 37
      · have hpb : ((s[k].toNat : Int) == 37) = true := by rw [hp]; rfl
        have HP := Lib.hid hp
        clear hp
        by_cases h2 : k + 2 < s.size
        · have hx1 : (s[k+1].toNat : Int) < 256 := by have := s[k+1].toNat_lt; omega
          have hx2 : (s[k+2].toNat : Int) < 256 := by have := s[k+2].toNat_lt; omega
          have HC1 := Lib.hid (drop_cons s (k + 1) (by omega))
          have HC2 := Lib.hid (drop_cons s (k + 2) (by omega))
          have hv0 := hexv_range s[k+1].toNat
          have hv1 := hexv_range s[k+2].toNat
          by_cases hv : 0 ≤ hexv s[k+1].toNat ∧ 0 ≤ hexv s[k+2].toNat
          · obtain ⟨p0, p1⟩ := hv
            have HN := new_cell1 wr (hexv s[k+1].toNat * 16 + hexv s[k+2].toNat) (by omega) (by omega)
            go_wp2_with (first | (go_at_call 22; refine (refHex_calls _ _ (by omega) (by omega)).mono ?_; rintro e w' ⟨rfl, rfl⟩) | (at_builtin; refine app_list rfl _ _ rfl w.heap.size _ _ rfl (hB.alloc _) ⟨wr.heap.size, 0, none⟩ 1 1 [(hexv s[k+1].toNat * 16 + hexv s[k+2].toNat).toNat.toUInt8] rfl rfl HN (by omega) (by simp; omega) ?_; intro v' w1 hB1 hg1))
            go_wp2
            go_roundw
            case rel =>
              refine ⟨k + 3, _, by omega, by go_num, hB1, (hB.alloc _).below (hb.alloc (by omega) _) (by simp; omega) hg1, ?_, by simp; omega⟩
              unfold Hid
              rw [← HD.out, HC.out, HP.out, HC1.out, HC2.out, dec_hit _ _ _ p0 p1, List.append_assoc]; rfl
            case measure => simp [intOf]; omega
          · have HN := new_cells wr [s[k]]
            have HH := Lib.hid hv
            by_cases p0 : 0 ≤ hexv s[k+1].toNat
            · have p1 : hexv s[k+2].toNat < 0 := by omega
              clear hv
              go_wp2_with (first | (go_at_call 22; refine (refHex_calls _ _ (by omega) (by omega)).mono ?_; rintro e w' ⟨rfl, rfl⟩) | (at_builtin; refine app_list rfl _ _ rfl w.heap.size _ _ rfl (hB.alloc _) ⟨wr.heap.size, 0, none⟩ 1 1 [s[k]] rfl rfl HN (by omega) (by simp; omega) ?_; intro v' w1 hB1 hg1))
              go_wp2
              go_roundw
              case rel =>
                refine ⟨k + 1, _, by omega, by go_num, hB1, (hB.alloc _).below (hb.alloc (by omega) _) (by simp; omega) hg1, ?_, by simp; omega⟩
                unfold Hid
                rw [← HD.out, HC.out, HC1.out, HC2.out, HP.out, dec_miss _ _ _ HH.out, List.append_assoc]; rfl
              case measure => simp [intOf]; omega
            · have p0' : hexv s[k+1].toNat < 0 := by omega
              clear hv p0
              go_wp2_with (first | (go_at_call 22; refine (refHex_calls _ _ (by omega) (by omega)).mono ?_; rintro e w' ⟨rfl, rfl⟩) | (at_builtin; refine app_list rfl _ _ rfl w.heap.size _ _ rfl (hB.alloc _) ⟨wr.heap.size, 0, none⟩ 1 1 [s[k]] rfl rfl HN (by omega) (by simp; omega) ?_; intro v' w1 hB1 hg1))
              go_wp2
              go_roundw
              case rel =>
                refine ⟨k + 1, _, by omega, by go_num, hB1, (hB.alloc _).below (hb.alloc (by omega) _) (by simp; omega) hg1, ?_, by simp; omega⟩
                unfold Hid
                rw [← HD.out, HC.out, HC1.out, HC2.out, HP.out, dec_miss _ _ _ HH.out, List.append_assoc]; rfl
              case measure => simp [intOf]; omega
        · have HN := new_cells wr [s[k]]
          have h2' : s.size ≤ k + 2 := by omega
          clear h2
          go_wp2_with (at_builtin; refine app_list rfl _ _ rfl w.heap.size _ _ rfl (hB.alloc _) ⟨wr.heap.size, 0, none⟩ 1 1 [s[k]] rfl rfl HN (by omega) (by simp; omega) ?_; intro v' w1 hB1 hg1)
          go_wp2
          go_roundw
          case rel =>
            refine ⟨k + 1, _, by omega, by go_num, hB1, (hB.alloc _).below (hb.alloc (by omega) _) (by simp; omega) hg1, ?_, by simp; omega⟩
            unfold Hid
            rw [← HD.out, HC.out, HP.out, dec_short _ (by simp; omega), List.append_assoc]; rfl
          case measure => simp [intOf]; omega
      · have hpb : ((s[k].toNat : Int) == 37) = false := by
          have : s[k].toNat ≠ 37 := fun h => hp (UInt8.toNat_inj.1 h)
          exact beq_eq_false_iff_ne.2 (by omega)
        have HP := Lib.hid hp
        clear hp
        have HN := new_cells wr [s[k]]
        go_wp2_with (at_builtin; refine app_list rfl _ _ rfl w.heap.size _ _ rfl (hB.alloc _) ⟨wr.heap.size, 0, none⟩ 1 1 [s[k]] rfl rfl HN (by omega) (by simp; omega) ?_; intro v' w1 hB1 hg1)
        go_wp2
        go_roundw
        case rel =>
          refine ⟨k + 1, _, by omega, by go_num, hB1, (hB.alloc _).below (hb.alloc (by omega) _) (by simp; omega) hg1, ?_, by simp; omega⟩
          unfold Hid
          rw [← HD.out, HC.out, dec_plain _ _ HP.out, List.append_assoc]; rfl
        case measure => simp [intOf]; omega
    · have hconv := hB.text
      go_wp2
      go_ret
      refine ⟨ret_str ?_, hb⟩
      rw [← HD.out, List.drop_of_length_le (by simp; omega)]
      simp [dec]
end Go.Proofs.Ytgppagdnjhpojaa
