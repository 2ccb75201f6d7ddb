/-
  Contracts of mark.declaration's upto at its three closures. The condition: the text takes at most 2 to the 40th bytes.
-/
import Derived.Test.YtileclmmobkcaaaDoorMdd
set_option linter.unusedVariables false
namespace Go.Proofs.YtileclmmobkcaaaDoor
open Go.RowKit Go.Shelf

theorem tw_take (q : UInt8 → Bool) (r : List UInt8) : r.takeWhile q = r.take (r.takeWhile q).length := by
  induction r with
  | nil => rfl
  | cons c r ih =>
    by_cases h : q c = true
    · rw [List.takeWhile_cons_of_pos h, List.length_cons, List.take_succ_cons, ← ih]
    · rw [List.takeWhile_cons_of_neg h]; rfl
theorem nt_of {a b : Bool} (e : a = !b) (h : a = false) : b = true := by subst e; simpa using h
theorem nf_of {a b : Bool} (e : a = !b) (h : a = true) : b = false := by subst e; simpa using h
theorem byte_eq (c : UInt8) (k : UInt8) : (((c.toNat : Nat) : Int) == ((k.toNat : Nat) : Int)) = (c == k) := by
  rw [Bool.eq_iff_iff]
  simp only [beq_iff_eq]
  constructor
  · intro h; exact UInt8.toNat_inj.1 (by omega)
  · rintro rfl; rfl

theorem stop_gt (c : UInt8) (w : World) : Calls Tryd.prog 48 #[.int .u8 (c.toNat : Nat)] w fun e w' => e = .returned (.bool (c == 62)) ∧ w' = w := by
  have HB : Hid ((((c.toNat : Nat) : Int) == 62) = (c == 62)) := byte_eq c 62
  go_enter Tryd.func48, Tryd.ntmps48
  go_wp2
  go_ret
  exact ⟨ret_bool HB.out, rfl⟩
theorem stop_nm (c : UInt8) (w : World) : Calls Tryd.prog 35 #[.int .u8 (c.toNat : Nat)] w fun e w' => e = .returned (.bool (c == 62 || bsp c)) ∧ w' = w := by
  have hc := c.toNat_lt
  have HB : Hid ((((c.toNat : Nat) : Int) == 62) = (c == 62)) := byte_eq c 62
  have HSP : Hid (isSpc (c.toNat : Int) = bsp c) := rfl
  cases hb : ((c.toNat : Nat) : Int) == 62 with
  | true =>
    have HC : Hid ((c == 62) = true) := HB.out.symm.trans hb
    go_enter Tryd.func35, Tryd.ntmps35
    go_wp2
    go_ret
    exact ⟨ret_bool (by rw [HC.out]; rfl), rfl⟩
  | false =>
    have HC : Hid ((c == 62) = false) := HB.out.symm.trans hb
    go_enter Tryd.func35, Tryd.ntmps35
    go_wp2_with (go_at_call 36; refine (space_calls _ _).mono ?_; rintro e w' ⟨rfl, rfl⟩)
    go_ret
    exact ⟨ret_bool (by rw [HC.out, ← HSP.out]; rfl), rfl⟩
theorem stop_q (Q : Nat) (q c : UInt8) (w : World) (h : w.cell? ⟨Q, 0, none⟩ = some (.int .u8 (q.toNat : Nat))) :
    Calls Tryd.prog 47 #[.int .u8 (c.toNat : Nat), .pointer (some ⟨Q, 0, none⟩)] w fun e w' => e = .returned (.bool (iq q c)) ∧ w' = w := by
  have HB : Hid ((((c.toNat : Nat) : Int) == 62) = (c == 62)) := byte_eq c 62
  have HQ : Hid ((((c.toNat : Nat) : Int) == ((q.toNat : Nat) : Int)) = (c == q)) := byte_eq c q
  cases hb : ((c.toNat : Nat) : Int) == ((q.toNat : Nat) : Int) with
  | true =>
    have HC : Hid ((c == q) = true) := HQ.out.symm.trans hb
    go_enter Tryd.func47, Tryd.ntmps47
    go_wp2
    go_ret
    exact ⟨ret_bool (by unfold iq; rw [HC.out]; rfl), rfl⟩
  | false =>
    have HC : Hid ((c == q) = false) := HQ.out.symm.trans hb
    go_enter Tryd.func47, Tryd.ntmps47
    go_wp2
    go_ret
    exact ⟨ret_bool (by unfold iq; rw [HC.out, ← HB.out]; rfl), rfl⟩

set_option maxRecDepth 100000 in
theorem upto_gt (D : Nat) (s : ByteArray) (n : Nat) (t : Tk) (w : World) (r : List UInt8) (hs : s.size ≤ 1099511627776) (h : Dc D s n t w) (hr : Ps s n r) :
    Calls Tryd.prog 34 #[.pointer (some ⟨D, 0, none⟩), .func (.func 48) #[] #[]] w fun e w' => ∃ n', e = .returned (.string ⟨(r.takeWhile (fun c => c != 62)).toArray⟩) ∧ Ps s n' (r.dropWhile (fun c => c != 62)) ∧ Dc D s n' t w' ∧ w.grownBy w' (some D) := by
  have c1 := h.c1
  have HH := Lib.hid h
  have HR0 := Lib.hid hr
  skip
  clear h hr
  go_enter Tryd.func34, Tryd.ntmps34
  go_wp2
  clear c1
  go_loopg [26] (r.length + 1) (fun g v wr => ∃ n' r', Ps s n' r' ∧ g = r'.length + 1 ∧ Hid (r'.dropWhile (fun c => c != 62) = r.dropWhile (fun c => c != 62)) ∧ Hid (n' + (r'.takeWhile (fun c => c != 62)).length = n + (r.takeWhile (fun c => c != 62)).length) ∧ Dc D s n' t wr ∧ w.grownBy wr (some D))
  case atStart => exact ⟨n, r, HR0.out, rfl, rfl, rfl, HH.out, World.grownBy.refl _ _⟩
  case round =>
    obtain ⟨n', r', hr', rfl, HD, HT, hd, hg⟩ := hrel
    have c0 := hd.c0
    have c1 := hd.c1
    have fz := hd.fz
    have H := Lib.hid hd
    have HG := Lib.hid hg
    have FIN : Hid (r'.takeWhile (fun c => c != 62) = [] → Ending.returned (.string (s.extract n n')) = .returned (.string ⟨(r.takeWhile (fun c => c != 62)).toArray⟩)) := by
      intro e
      refine ret_str' ?_
      have h1 := HT.out
      rw [e] at h1
      rw [Lib.extract_data, HR0.out.eq, tw_take (fun c => c != 62) r]
      congr 1
      simp at h1
      omega
    have hnn := HR0.out.le
    have hn2 : n ≤ n' ∨ ¬ n ≤ n' := by omega
    match r', hr', HD, HT, FIN with
    | [], hr', HD, HT, FIN =>
      have HR := Lib.hid hr'
      have hle : n ≤ n' := by have := HT.out; simp at this; omega
      have hle2 := hr'.le
      clear hd hg hr' hn2
      go_wp2
      go_quiet ((go_at_call 31; exact Calls.quiet_of (ended_yes D s n' t _ (H.out.drewN _) HR.out)))
      go_wp2
      go_quiet (fail)
      go_wp2
      go_ret
      exact ⟨n', FIN.out rfl, by rw [← HD.out]; exact HR.out, (H.out.drewN _).drewN _, gb_drewN (gb_drewN HG.out _) _⟩
    | c :: r2, hr', HD, HT, FIN =>
      obtain ⟨hn, hx, hps⟩ := hr'.cons
      have HX := Lib.hid hx
      have HP := Lib.hid hps
      have h0 : (0 : Int) ≤ n' := by omega
      have h1 : (n' : Int) < s.size := by omega
      have hcc : (s[n'].toNat : Int) < 256 := by have := s[n'].toNat_lt; omega
      by_cases hb : (fun c => c != 62) c = true
      · have HB : Hid (r2.dropWhile (fun c => c != 62) = r.dropWhile (fun c => c != 62)) := by unfold Hid; rw [← HD.out, List.dropWhile_cons_of_pos (by exact hb)]
        have HT2 : Hid (n' + 1 + (r2.takeWhile (fun c => c != 62)).length = n + (r.takeWhile (fun c => c != 62)).length) := by
          unfold Hid; rw [← HT.out, List.takeWhile_cons_of_pos (by exact hb)]; simp; omega
        have HSQ : Hid (∀ k, Calls Tryd.prog 48 #[.int .u8 (s[n'].toNat : Int)] (wr.drewN k) fun e w' => e = .returned (.bool false) ∧ w' = wr.drewN k) := fun k => by
          have := stop_gt c (wr.drewN k)
          rw [hx]
          refine this.mono fun _ _ h => ⟨h.1.trans (ret_bool ?_), h.2⟩
          exact nf_of rfl hb
        clear hd hg hr' hx hb hps hn2 FIN
        go_wp2
        go_quiet (first
          | (go_at_call 31; exact Calls.quiet_of (ended_no D s n' t _ (H.out.drewN _) (by omega)))
          | (go_at_call 48; exact Calls.quiet_of_same (HSQ.out _)))
        go_wp2
        go_roundg (r2.length + 1)
        case measure => simp
        case rel => exact ⟨n' + 1, r2, HP.out, rfl, HB, HT2, (H.out.drewN _).setAt _, gb_set (gb_drewN HG.out _) _ _⟩
      · have hb' : (fun c => c != 62) c = false := by simpa using hb
        have HB : Hid (r.dropWhile (fun c => c != 62) = c :: r2) := by unfold Hid; rw [← HD.out, List.dropWhile_cons_of_neg (by exact hb)]
        have HT0 : Hid ((c :: r2).takeWhile (fun c => c != 62) = []) := by unfold Hid; rw [List.takeWhile_cons_of_neg (by exact hb)]
        have hle : n ≤ n' := by have := HT.out; rw [HT0.out] at this; simp at this; omega
        have HR := Lib.hid hr'
        have HSQ : Hid (∀ k, Calls Tryd.prog 48 #[.int .u8 (s[n'].toNat : Int)] (wr.drewN k) fun e w' => e = .returned (.bool true) ∧ w' = wr.drewN k) := fun k => by
          have := stop_gt c (wr.drewN k)
          rw [hx]
          refine this.mono fun _ _ h => ⟨h.1.trans (ret_bool ?_), h.2⟩
          exact nt_of rfl hb'
        clear hd hg hr' hx hb hb' hps hn2
        go_wp2
        go_quiet (first
          | (go_at_call 31; exact Calls.quiet_of (ended_no D s n' t _ (H.out.drewN _) (by omega)))
          | (go_at_call 48; exact Calls.quiet_of_same (HSQ.out _)))
        go_wp2
        go_quiet (fail)
        go_wp2
        go_ret
        exact ⟨n', FIN.out HT0.out, by rw [HB.out]; exact HR.out, (H.out.drewN _).drewN _, gb_drewN (gb_drewN HG.out _) _⟩

set_option maxRecDepth 100000 in
theorem upto_nm (D : Nat) (s : ByteArray) (n : Nat) (t : Tk) (w : World) (r : List UInt8) (hs : s.size ≤ 1099511627776) (h : Dc D s n t w) (hr : Ps s n r) :
    Calls Tryd.prog 34 #[.pointer (some ⟨D, 0, none⟩), .func (.func 35) #[] #[]] w fun e w' => ∃ n', e = .returned (.string ⟨(r.takeWhile (inm)).toArray⟩) ∧ Ps s n' (r.dropWhile (inm)) ∧ Dc D s n' t w' ∧ w.grownBy w' (some D) := by
  have c1 := h.c1
  have HH := Lib.hid h
  have HR0 := Lib.hid hr
  skip
  clear h hr
  go_enter Tryd.func34, Tryd.ntmps34
  go_wp2
  clear c1
  go_loopg [26] (r.length + 1) (fun g v wr => ∃ n' r', Ps s n' r' ∧ g = r'.length + 1 ∧ Hid (r'.dropWhile (inm) = r.dropWhile (inm)) ∧ Hid (n' + (r'.takeWhile (inm)).length = n + (r.takeWhile (inm)).length) ∧ Dc D s n' t wr ∧ w.grownBy wr (some D))
  case atStart => exact ⟨n, r, HR0.out, rfl, rfl, rfl, HH.out, World.grownBy.refl _ _⟩
  case round =>
    obtain ⟨n', r', hr', rfl, HD, HT, hd, hg⟩ := hrel
    have c0 := hd.c0
    have c1 := hd.c1
    have fz := hd.fz
    have H := Lib.hid hd
    have HG := Lib.hid hg
    have FIN : Hid (r'.takeWhile (inm) = [] → Ending.returned (.string (s.extract n n')) = .returned (.string ⟨(r.takeWhile (inm)).toArray⟩)) := by
      intro e
      refine ret_str' ?_
      have h1 := HT.out
      rw [e] at h1
      rw [Lib.extract_data, HR0.out.eq, tw_take (inm) r]
      congr 1
      simp at h1
      omega
    have hnn := HR0.out.le
    have hn2 : n ≤ n' ∨ ¬ n ≤ n' := by omega
    match r', hr', HD, HT, FIN with
    | [], hr', HD, HT, FIN =>
      have HR := Lib.hid hr'
      have hle : n ≤ n' := by have := HT.out; simp at this; omega
      have hle2 := hr'.le
      clear hd hg hr' hn2
      go_wp2
      go_quiet ((go_at_call 31; exact Calls.quiet_of (ended_yes D s n' t _ (H.out.drewN _) HR.out)))
      go_wp2
      go_quiet (fail)
      go_wp2
      go_ret
      exact ⟨n', FIN.out rfl, by rw [← HD.out]; exact HR.out, (H.out.drewN _).drewN _, gb_drewN (gb_drewN HG.out _) _⟩
    | c :: r2, hr', HD, HT, FIN =>
      obtain ⟨hn, hx, hps⟩ := hr'.cons
      have HX := Lib.hid hx
      have HP := Lib.hid hps
      have h0 : (0 : Int) ≤ n' := by omega
      have h1 : (n' : Int) < s.size := by omega
      have hcc : (s[n'].toNat : Int) < 256 := by have := s[n'].toNat_lt; omega
      by_cases hb : (inm) c = true
      · have HB : Hid (r2.dropWhile (inm) = r.dropWhile (inm)) := by unfold Hid; rw [← HD.out, List.dropWhile_cons_of_pos (by exact hb)]
        have HT2 : Hid (n' + 1 + (r2.takeWhile (inm)).length = n + (r.takeWhile (inm)).length) := by
          unfold Hid; rw [← HT.out, List.takeWhile_cons_of_pos (by exact hb)]; simp; omega
        have HSQ : Hid (∀ k, Calls Tryd.prog 35 #[.int .u8 (s[n'].toNat : Int)] (wr.drewN k) fun e w' => e = .returned (.bool false) ∧ w' = wr.drewN k) := fun k => by
          have := stop_nm c (wr.drewN k)
          rw [hx]
          refine this.mono fun _ _ h => ⟨h.1.trans (ret_bool ?_), h.2⟩
          exact nf_of rfl hb
        clear hd hg hr' hx hb hps hn2 FIN
        go_wp2
        go_quiet (first
          | (go_at_call 31; exact Calls.quiet_of (ended_no D s n' t _ (H.out.drewN _) (by omega)))
          | (go_at_call 35; exact Calls.quiet_of_same (HSQ.out _)))
        go_wp2
        go_roundg (r2.length + 1)
        case measure => simp
        case rel => exact ⟨n' + 1, r2, HP.out, rfl, HB, HT2, (H.out.drewN _).setAt _, gb_set (gb_drewN HG.out _) _ _⟩
      · have hb' : (inm) c = false := by simpa using hb
        have HB : Hid (r.dropWhile (inm) = c :: r2) := by unfold Hid; rw [← HD.out, List.dropWhile_cons_of_neg (by exact hb)]
        have HT0 : Hid ((c :: r2).takeWhile (inm) = []) := by unfold Hid; rw [List.takeWhile_cons_of_neg (by exact hb)]
        have hle : n ≤ n' := by have := HT.out; rw [HT0.out] at this; simp at this; omega
        have HR := Lib.hid hr'
        have HSQ : Hid (∀ k, Calls Tryd.prog 35 #[.int .u8 (s[n'].toNat : Int)] (wr.drewN k) fun e w' => e = .returned (.bool true) ∧ w' = wr.drewN k) := fun k => by
          have := stop_nm c (wr.drewN k)
          rw [hx]
          refine this.mono fun _ _ h => ⟨h.1.trans (ret_bool ?_), h.2⟩
          exact nt_of rfl hb'
        clear hd hg hr' hx hb hb' hps hn2
        go_wp2
        go_quiet (first
          | (go_at_call 31; exact Calls.quiet_of (ended_no D s n' t _ (H.out.drewN _) (by omega)))
          | (go_at_call 35; exact Calls.quiet_of_same (HSQ.out _)))
        go_wp2
        go_quiet (fail)
        go_wp2
        go_ret
        exact ⟨n', FIN.out HT0.out, by rw [HB.out]; exact HR.out, (H.out.drewN _).drewN _, gb_drewN (gb_drewN HG.out _) _⟩

set_option maxRecDepth 100000 in
theorem upto_q (D : Nat) (s : ByteArray) (n : Nat) (t : Tk) (w : World) (r : List UInt8) (Q : Nat) (q : UInt8) (hQ : w.heap[Q]? = some (.cells #[.int .u8 (q.toNat : Nat)] 5 (0, 0))) (hQD : Q ≠ D) (hs : s.size ≤ 1099511627776) (h : Dc D s n t w) (hr : Ps s n r) :
    Calls Tryd.prog 34 #[.pointer (some ⟨D, 0, none⟩), .func (.func 47) #[] #[.pointer (some ⟨Q, 0, none⟩)]] w fun e w' => ∃ n', e = .returned (.string ⟨(r.takeWhile (fun c => !iq q c)).toArray⟩) ∧ Ps s n' (r.dropWhile (fun c => !iq q c)) ∧ Dc D s n' t w' ∧ w.grownBy w' (some D) := by
  have c1 := h.c1
  have HH := Lib.hid h
  have HR0 := Lib.hid hr
  have HQ := Lib.hid hQ
  clear hQ
  clear h hr
  go_enter Tryd.func34, Tryd.ntmps34
  go_wp2
  clear c1
  go_loopg [26] (r.length + 1) (fun g v wr => ∃ n' r', Ps s n' r' ∧ g = r'.length + 1 ∧ Hid (r'.dropWhile (fun c => !iq q c) = r.dropWhile (fun c => !iq q c)) ∧ Hid (n' + (r'.takeWhile (fun c => !iq q c)).length = n + (r.takeWhile (fun c => !iq q c)).length) ∧ Dc D s n' t wr ∧ w.grownBy wr (some D))
  case atStart => exact ⟨n, r, HR0.out, rfl, rfl, rfl, HH.out, World.grownBy.refl _ _⟩
  case round =>
    obtain ⟨n', r', hr', rfl, HD, HT, hd, hg⟩ := hrel
    have c0 := hd.c0
    have c1 := hd.c1
    have fz := hd.fz
    have H := Lib.hid hd
    have HG := Lib.hid hg
    have FIN : Hid (r'.takeWhile (fun c => !iq q c) = [] → Ending.returned (.string (s.extract n n')) = .returned (.string ⟨(r.takeWhile (fun c => !iq q c)).toArray⟩)) := by
      intro e
      refine ret_str' ?_
      have h1 := HT.out
      rw [e] at h1
      rw [Lib.extract_data, HR0.out.eq, tw_take (fun c => !iq q c) r]
      congr 1
      simp at h1
      omega
    have hnn := HR0.out.le
    have hn2 : n ≤ n' ∨ ¬ n ≤ n' := by omega
    match r', hr', HD, HT, FIN with
    | [], hr', HD, HT, FIN =>
      have HR := Lib.hid hr'
      have hle : n ≤ n' := by have := HT.out; simp at this; omega
      have hle2 := hr'.le
      clear hd hg hr' hn2
      go_wp2
      go_quiet ((go_at_call 31; exact Calls.quiet_of (ended_yes D s n' t _ (H.out.drewN _) HR.out)))
      go_wp2
      go_quiet (fail)
      go_wp2
      go_ret
      exact ⟨n', FIN.out rfl, by rw [← HD.out]; exact HR.out, (H.out.drewN _).drewN _, gb_drewN (gb_drewN HG.out _) _⟩
    | c :: r2, hr', HD, HT, FIN =>
      obtain ⟨hn, hx, hps⟩ := hr'.cons
      have HX := Lib.hid hx
      have HP := Lib.hid hps
      have h0 : (0 : Int) ≤ n' := by omega
      have h1 : (n' : Int) < s.size := by omega
      have hcc : (s[n'].toNat : Int) < 256 := by have := s[n'].toNat_lt; omega
      by_cases hb : (fun c => !iq q c) c = true
      · have HB : Hid (r2.dropWhile (fun c => !iq q c) = r.dropWhile (fun c => !iq q c)) := by unfold Hid; rw [← HD.out, List.dropWhile_cons_of_pos (by exact hb)]
        have HT2 : Hid (n' + 1 + (r2.takeWhile (fun c => !iq q c)).length = n + (r.takeWhile (fun c => !iq q c)).length) := by
          unfold Hid; rw [← HT.out, List.takeWhile_cons_of_pos (by exact hb)]; simp; omega
        have HSQ : Hid (∀ k, Calls Tryd.prog 47 #[.int .u8 (s[n'].toNat : Int), .pointer (some ⟨Q, 0, none⟩)] (wr.drewN k) fun e w' => e = .returned (.bool false) ∧ w' = wr.drewN k) := fun k => by
          have := stop_q Q q c (wr.drewN k) (by
            have := gb_block (o := _) HG.out HQ.out hQD
            exact cell_of_heap' (w := wr) this 0)
          rw [hx]
          refine this.mono fun _ _ h => ⟨h.1.trans (ret_bool ?_), h.2⟩
          exact nf_of rfl hb
        clear hd hg hr' hx hb hps hn2 FIN
        go_wp2
        go_quiet (first
          | (go_at_call 31; exact Calls.quiet_of (ended_no D s n' t _ (H.out.drewN _) (by omega)))
          | (go_at_call 47; exact Calls.quiet_of_same (HSQ.out _)))
        go_wp2
        go_roundg (r2.length + 1)
        case measure => simp
        case rel => exact ⟨n' + 1, r2, HP.out, rfl, HB, HT2, (H.out.drewN _).setAt _, gb_set (gb_drewN HG.out _) _ _⟩
      · have hb' : (fun c => !iq q c) c = false := by simpa using hb
        have HB : Hid (r.dropWhile (fun c => !iq q c) = c :: r2) := by unfold Hid; rw [← HD.out, List.dropWhile_cons_of_neg (by exact hb)]
        have HT0 : Hid ((c :: r2).takeWhile (fun c => !iq q c) = []) := by unfold Hid; rw [List.takeWhile_cons_of_neg (by exact hb)]
        have hle : n ≤ n' := by have := HT.out; rw [HT0.out] at this; simp at this; omega
        have HR := Lib.hid hr'
        have HSQ : Hid (∀ k, Calls Tryd.prog 47 #[.int .u8 (s[n'].toNat : Int), .pointer (some ⟨Q, 0, none⟩)] (wr.drewN k) fun e w' => e = .returned (.bool true) ∧ w' = wr.drewN k) := fun k => by
          have := stop_q Q q c (wr.drewN k) (by
            have := gb_block (o := _) HG.out HQ.out hQD
            exact cell_of_heap' (w := wr) this 0)
          rw [hx]
          refine this.mono fun _ _ h => ⟨h.1.trans (ret_bool ?_), h.2⟩
          exact nt_of rfl hb'
        clear hd hg hr' hx hb hb' hps hn2
        go_wp2
        go_quiet (first
          | (go_at_call 31; exact Calls.quiet_of (ended_no D s n' t _ (H.out.drewN _) (by omega)))
          | (go_at_call 47; exact Calls.quiet_of_same (HSQ.out _)))
        go_wp2
        go_quiet (fail)
        go_wp2
        go_ret
        exact ⟨n', FIN.out HT0.out, by rw [HB.out]; exact HR.out, (H.out.drewN _).drewN _, gb_drewN (gb_drewN HG.out _) _⟩
end Go.Proofs.YtileclmmobkcaaaDoor
