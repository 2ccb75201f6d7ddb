/-
  The walk of lacunalaw01.TextJoined: it returns true. The condition: the tables and the library's shape stand.
-/
import Derived.Test.YteffnlelmcbgmaaDoorWrc
import Derived.Test.YteffnlelmcbgmaaDoorLow
import Derived.Test.YteffnlelmcbgmaaDoorRnt
set_option linter.unusedVariables false
namespace Go.Proofs.YteffnlelmcbgmaaDoor
open Go.RowKit Go.Shelf

theorem lwr_app (x y : List UInt8) : lwr (x ++ y) = lwr x ++ lwr y := by simp [lwr]
theorem crlf_app (x y : List UInt8) (h : x.getLast? ≠ some 13) : crlf (x ++ y) = crlf x ++ crlf y := by
  obtain ⟨n, hn⟩ : ∃ n, x.length ≤ n := ⟨_, Nat.le_refl _⟩
  induction n generalizing x with
  | zero => rw [List.length_eq_zero_iff.1 (by omega : x.length = 0)]; rfl
  | succ n ih =>
    match x, hn, h with
    | [], _, _ => rfl
    | [c], _, h =>
      have hc : c ≠ 13 := by simpa using h
      rw [List.singleton_append, crlf_cons _ _ (fun e => hc e.1)]; rfl
    | c :: d :: r, hn, h =>
      have h' : (d :: r).getLast? ≠ some 13 := by simpa [List.getLast?_cons_cons] using h
      by_cases hcd : c = 13 ∧ d = 10
      · obtain ⟨rfl, rfl⟩ := hcd
        show crlf (13 :: 10 :: (r ++ y)) = _
        rw [crlf_hit, crlf_hit, ih r ?_ (by simp at hn; omega)]
        · rfl
        · match r, h' with
          | [], _ => simp
          | e :: r, h' => simpa [List.getLast?_cons_cons] using h'
      · have e1 : crlf (c :: d :: r) = c :: crlf (d :: r) := by rw [crlf, if_neg hcd]
        have e2 : crlf (c :: d :: r ++ y) = c :: crlf (d :: r ++ y) := by
          show crlf (c :: d :: (r ++ y)) = _
          rw [crlf, if_neg hcd]; rfl
        rw [e1, e2, ih (d :: r) h' (by simpa using hn)]; rfl
theorem nrm_app (x y : List UInt8) (h : x.getLast? ≠ some 13) : nrm (x ++ y) = nrm x ++ nrm y := by
  unfold nrm; rw [crlf_app x y h, List.map_append]

theorem ba_app (x y : ByteArray) : (x ++ y).data.toList = x.data.toList ++ y.data.toList := by simp
theorem ba_of (x : ByteArray) (l : List UInt8) (h : x.data.toList = l) : x = ⟨l.toArray⟩ := by subst h; rfl
theorem ba_join (l m : List UInt8) : (⟨l.toArray⟩ : ByteArray) ++ (⟨m.toArray⟩ : ByteArray) = ⟨(l ++ m).toArray⟩ := by
  apply ByteArray.ext; simp
theorem ba_len (l : List UInt8) : (⟨l.toArray⟩ : ByteArray).size = l.length := rfl

theorem joined_nrm (x y : ByteArray) (h : x.size = 0 ∨ ∃ h : 0 < x.size, x[x.size - 1] ≠ 13) : nrm (x ++ y).data.toList = nrm x.data.toList ++ nrm y.data.toList := by
  rw [ba_app, nrm_app]
  rcases h with h | ⟨h, h2⟩
  · have : x.data.toList = [] := List.length_eq_zero_iff.1 (by simpa using h)
    rw [this]; simp
  · intro e
    apply h2
    rw [List.getLast?_eq_getElem?] at e
    have hl : x.data.toList.length = x.size := by simp
    rw [hl, List.getElem?_eq_getElem (by omega)] at e
    have : x.data.toList[x.size - 1]'(by omega) = x[x.size - 1] := rfl
    rw [this] at e
    exact Option.some.inj e

set_option maxRecDepth 100000 in
theorem joined_walk (a b : ByteArray) (w : World) (hsh : Sh w) (hT : Tabs w) :
    Calls Tryd.prog 5 #[.string a, .string b] w fun e w' => e = .returned (.bool true) ∧ Below w.heap.size w w' := by
  have HS := Lib.hid hsh
  have HT := Lib.hid hT
  clear hsh hT
  go_enter Tryd.func5, Tryd.ntmps5
  go_wp2_with fail
  refine (works_calls _ HS.out HT.out).mono ?_
  rintro e w1 ⟨rfl, hb1⟩
  by_cases ha : 16384 < a.size
  · have ha' : (16384 : Int) < a.size := by omega
    go_wp2
    go_ret
    exact ⟨rfl, hb1⟩
  by_cases hb : 16384 < b.size
  · have hb' : (16384 : Int) < b.size := by omega
    have ha' : ¬ ((16384 : Int) < a.size) := by omega
    go_wp2
    go_ret
    exact ⟨rfl, hb1⟩
  have ha' : ¬ ((16384 : Int) < a.size) := by omega
  have hb' : ¬ ((16384 : Int) < b.size) := by omega
  go_wp2_with fail
  clear ha' hb'
  have HD : Hid (∀ (s : ByteArray) (w : World), s.size ≤ 1099511627776 → Tabs w → Calls Tryd.prog 15 #[.string s] w fun e w' => ∃ t : ByteArray, e = .returned (.string t) ∧ Hid (t.data.toList = decd s.data.toList) ∧ t.size ≤ 4 * s.size ∧ Below w.heap.size w w') := fun s w h1 h2 =>
    (decodeT_calls s w h1 h2).mono fun e w' h => ⟨_, h.1, rfl, by have := decd_le s.data.toList; simpa [ba_len] using this, h.2⟩
  refine (HD.out a _ (by omega) (HT.out.below hb1)).mono ?_
  rintro e w2 ⟨x, rfl, hx, hxl, hb2⟩
  have hb2' := hb1.trans (hb2.mono hb1.size)
  clear hb1 hb2
  go_wp2_with fail
  refine (HD.out b _ (by omega) (HT.out.below hb2')).mono ?_
  rintro e w3 ⟨y, rfl, hy, hyl, hb3⟩
  have hb3' := hb2'.trans (hb3.mono hb2'.size)
  clear hb2' hb3
  have hxy : Hid (decd (x ++ y).data.toList = (x ++ y).data.toList) := by unfold Hid; rw [ba_app, hx.out, hy.out, decd_join]
  have hsz : (x ++ y).size ≤ 131072 := by simp; omega
  have HDJ : Hid (∀ w, Tabs w → Calls Tryd.prog 15 #[.string (x ++ y)] w fun e w' => e = .returned (.string (x ++ y)) ∧ Below w.heap.size w w') := fun w h =>
    (decodeT_calls (x ++ y) w (by omega) h).mono fun e w' h => ⟨by rw [h.1, hxy.out], h.2⟩
  obtain ⟨lx, hlx⟩ : ∃ t : ByteArray, t = ⟨(lwr x.data.toList).toArray⟩ := ⟨_, rfl⟩
  obtain ⟨ly, hly⟩ : ∃ t : ByteArray, t = ⟨(lwr y.data.toList).toArray⟩ := ⟨_, rfl⟩
  have HLX : Hid (∀ w, Calls Tryd.prog 16 #[.string x] w fun e w' => e = .returned (.string lx) ∧ Below w.heap.size w w') := by rw [hlx]; exact fun w => lower_calls x (by omega) w
  have HLY : Hid (∀ w, Calls Tryd.prog 16 #[.string y] w fun e w' => e = .returned (.string ly) ∧ Below w.heap.size w w') := by rw [hly]; exact fun w => lower_calls y (by omega) w
  have HLJ : Hid (∀ w, Calls Tryd.prog 16 #[.string (x ++ y)] w fun e w' => e = .returned (.string (lx ++ ly)) ∧ Below w.heap.size w w') := by
    intro w
    have := lower_calls (x ++ y) (by omega) w
    rw [ba_app, lwr_app, ← ba_join, ← hlx, ← hly] at this
    exact this
  have hlxl : lx.size ≤ 131072 := by rw [hlx, ba_len]; unfold lwr; simp; omega
  have hlyl : ly.size ≤ 131072 := by rw [hly, ba_len]; unfold lwr; simp; omega
  clear hlx hly hxy
  go_wp2_with fail
  refine (HDJ.out _ (HT.out.below hb3')).mono ?_
  rintro e w4 ⟨rfl, hb4⟩
  have hb4' := hb3'.trans (hb4.mono hb3'.size)
  clear hb3' hb4
  go_wp2_with fail
  refine (HLJ.out _).mono ?_
  rintro e w5 ⟨rfl, hb5⟩
  have hb5' := hb4'.trans (hb5.mono hb4'.size)
  clear hb4' hb5
  go_wp2_with fail
  refine (HLX.out _).mono ?_
  rintro e w6 ⟨rfl, hb6⟩
  have hb6' := hb5'.trans (hb6.mono hb5'.size)
  clear hb5' hb6
  go_wp2_with fail
  refine (HLY.out _).mono ?_
  rintro e w7 ⟨rfl, hb7⟩
  have hb7' := hb6'.trans (hb7.mono hb6'.size)
  clear hb6' hb7 HLX HLY HLJ HDJ HD
  have HNN : Hid (nrm (x ++ y).data.toList = nrm x.data.toList ++ nrm y.data.toList → ∃ nx ny : ByteArray, nx.size ≤ 131072 ∧ ny.size ≤ 131072 ∧
      Hid (∀ w, Sh w → Calls Tryd.prog 17 #[.string x] w fun e w' => e = .returned (.string nx) ∧ Below w.heap.size w w') ∧
      Hid (∀ w, Sh w → Calls Tryd.prog 17 #[.string y] w fun e w' => e = .returned (.string ny) ∧ Below w.heap.size w w') ∧
      Hid (∀ w, Sh w → Calls Tryd.prog 17 #[.string (x ++ y)] w fun e w' => e = .returned (.string (nx ++ ny)) ∧ Below w.heap.size w w')) := by
    intro h
    have h1 := nrm_le x.data.toList
    have h2 := nrm_le y.data.toList
    rw [show x.data.toList.length = x.size by simp] at h1
    rw [show y.data.toList.length = y.size by simp] at h2
    refine ⟨⟨(nrm x.data.toList).toArray⟩, ⟨(nrm y.data.toList).toArray⟩, by rw [ba_len]; omega, by rw [ba_len]; omega, fun w hs => normal_calls x (by omega) w hs, fun w hs => normal_calls y (by omega) w hs, fun w hs => ?_⟩
    have := normal_calls (x ++ y) (by omega) w hs
    rwa [h, ← ba_join] at this
  by_cases hx0 : x.size = 0
  · have hx0' : ¬ ((0 : Int) < x.size) := by omega
    obtain ⟨nx, ny, hnx, hny, HNX, HNY, HNJ⟩ := HNN.out (joined_nrm x y (.inl hx0))
    clear HNN
    go_wp2_with fail
    refine (HNJ.out _ (HS.out.below hb7')).mono ?_
    rintro e w8 ⟨rfl, hb8⟩
    have hb8' := hb7'.trans (hb8.mono hb7'.size)
    clear hb7' hb8
    go_wp2_with fail
    refine (HNX.out _ (HS.out.below hb8')).mono ?_
    rintro e w9 ⟨rfl, hb9⟩
    have hb9' := hb8'.trans (hb9.mono hb8'.size)
    clear hb8' hb9
    go_wp2_with fail
    refine (HNY.out _ (HS.out.below hb9')).mono ?_
    rintro e w10 ⟨rfl, hb10⟩
    have hb10' := hb9'.trans (hb10.mono hb9'.size)
    clear hb9' hb10
    go_wp2
    go_ret
    exact ⟨rfl, hb10'⟩
  have hx1 : (0 : Int) < x.size := by omega
  have hidx : ∀ w, (Instr.index 9 (.string x) (.int .i64 ((x.size : Int) - 1))).run Tryd.prog w = .ok (.int .u8 (((x[x.size - 1]'(by omega)).toNat : Nat) : Int)) w := by
    intro w
    rw [run_index_string w _ _ _ _ Tryd.underlying9, dif_pos ⟨by omega, by omega⟩]
    congr
    omega
  by_cases hx13 : x[x.size - 1]'(by omega) = 13
  · rw [hx13] at hidx
    have hidx' : ∀ w, (Instr.index 9 (.string x) (.int .i64 ((x.size : Int) - 1))).run Tryd.prog w = .ok (.int .u8 13) w := hidx
    clear hidx HNN
    go_wp2
    go_ret
    exact ⟨rfl, hb7'⟩
  · obtain ⟨nx, ny, hnx, hny, HNX, HNY, HNJ⟩ := HNN.out (joined_nrm x y (.inr ⟨by omega, hx13⟩))
    clear HNN
    obtain ⟨c, hc⟩ : ∃ c, (((x[x.size - 1]'(by omega)).toNat : Nat) : Int) = c := ⟨_, rfl⟩
    rw [hc] at hidx
    have hc13 : (c == 13) = false := by
      rw [beq_eq_false_iff_ne]
      intro e
      apply hx13
      apply UInt8.toNat_inj.1
      show _ = 13
      omega
    clear hx13 hc
    go_wp2_with fail
    refine (HNJ.out _ (HS.out.below hb7')).mono ?_
    rintro e w8 ⟨rfl, hb8⟩
    have hb8' := hb7'.trans (hb8.mono hb7'.size)
    clear hb7' hb8
    go_wp2_with fail
    refine (HNX.out _ (HS.out.below hb8')).mono ?_
    rintro e w9 ⟨rfl, hb9⟩
    have hb9' := hb8'.trans (hb9.mono hb8'.size)
    clear hb8' hb9
    go_wp2_with fail
    refine (HNY.out _ (HS.out.below hb9')).mono ?_
    rintro e w10 ⟨rfl, hb10⟩
    have hb10' := hb9'.trans (hb10.mono hb9'.size)
    clear hb9' hb10
    go_wp2
    go_ret
    exact ⟨rfl, hb10'⟩
end Go.Proofs.YteffnlelmcbgmaaDoor
