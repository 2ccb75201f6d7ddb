/-
  Contracts of mark.declaration's methods word and quoted. The condition: the text takes at most 2 to the 28th bytes; MaxLen holds some number.
-/
import Derived.Test.YtileclmmobkcaaaDoorMdf
set_option linter.unusedVariables false
namespace Go.Proofs.YtileclmmobkcaaaDoor
open Go.RowKit Go.Shelf

theorem gb_of_drewN {w w' : World} {D m : Nat} (h : w' = w.drewN m) : w.grownBy w' (some D) := by rw [h]; exact gb_drewN (World.grownBy.refl _ _) _
theorem Dc.of_drewN {D : Nat} {s : ByteArray} {n : Nat} {t : Tk} {w w' : World} {m : Nat} (h : Dc D s n t w) (hw : w' = w.drewN m) : Dc D s n t w' := by rw [hw]; exact h
theorem lwr_lw (l : List UInt8) : lwr l = lw l := rfl

/-- What the public identifier leaves: the token, what stands behind, whether one was found, whether it is shut. -/
def qdP (t : Tk) (r : List UInt8) : Tk × List UInt8 × Bool × Bool :=
  match r with
  | [] => (t, [], false, false)
  | q :: r1 =>
    if isQ q then
      (match r1.dropWhile fun c => !iq q c with
        | [] => ({ t with hp := true, pub := wh (r1.takeWhile fun c => !iq q c) }, [], true, false)
        | c :: r2 => if c = q then ({ t with hp := true, pub := wh (r1.takeWhile fun c => !iq q c) }, r2, true, true) else ({ t with hp := true, pub := wh (r1.takeWhile fun c => !iq q c) }, c :: r2, true, false))
    else (t, q :: r1, false, false)
def QdP (D : Nat) (s : ByteArray) (t : Tk) (r : List UInt8) (w : World) (e : Ending) (w' : World) : Prop :=
  ∃ n', e = .returned (.tuple #[.bool (qdP t r).2.2.1, .bool (qdP t r).2.2.2]) ∧ Ps s n' (qdP t r).2.1 ∧ Dc D s n' (qdP t r).1 w' ∧ w.grownBy w' (some D)

set_option maxRecDepth 100000 in
set_option maxHeartbeats 2000000 in
theorem quotedP_calls (D : Nat) (s : ByteArray) (n : Nat) (t : Tk) (w : World) (r : List UInt8) (hs : s.size ≤ 268435456) (h : Dc D s n t w) (hr : Ps s n r) (hsh : Sh w) (hDg : 0 ≠ D) :
    Calls Tryd.prog 38 #[.pointer (some ⟨D, 0, none⟩), .pointer (some ⟨D, 7, none⟩), .pointer (some ⟨D, 9, none⟩)] w (QdP D s t r w) := by
  have H := Lib.hid h
  have HR := Lib.hid hr
  have HS := Lib.hid hsh
  match r, HR with
  | [], HR =>
    clear h hr hsh
    go_enter Tryd.func38, Tryd.ntmps38
    go_wp2_with fail
    refine (is_none D s n t 34 _ H.out HR.out).mono ?_
    rintro e w1 ⟨rfl, m, hw⟩
    have H1 := Lib.hid (H.out.of_drewN hw)
    have HG1 := Lib.hid (gb_of_drewN (D := D) hw)
    clear hw
    go_wp2_with fail
    refine (is_none D s n t 39 _ H1.out HR.out).mono ?_
    rintro e w2 ⟨rfl, m, hw⟩
    have H2 := Lib.hid (H1.out.of_drewN hw)
    have HG2 := Lib.hid (gb_of_drewN (D := D) hw)
    clear hw
    go_wp2
    go_ret2
    exact ⟨n, rfl, HR.out, H2.out, gb_trans HG1.out HG2.out⟩
  | q :: r1, HR =>
    obtain ⟨hn, hx, hps⟩ := HR.out.cons
    have HX := Lib.hid hx
    have HP := Lib.hid hps
    have hq := q.toNat_lt
    have B34 : Hid (((((q.toNat : Nat) : Int) == 34)) = (q == 34)) := byte_eq q 34
    have B39 : Hid (((((q.toNat : Nat) : Int) == 39)) = (q == 39)) := byte_eq q 39
    by_cases hQ : isQ q = true
    · -- a quote stands there
      have HQ := Lib.hid hQ
      have h0 : (0 : Int) ≤ n := by omega
      have h1 : (n : Int) < s.size := by omega
      have h39 : q = 34 ∨ q = 39 := by unfold isQ at hQ; simpa using hQ
      clear h hr hsh hx hps hQ
      go_enter Tryd.func38, Tryd.ntmps38
      go_wp2_with fail
      refine (is_some D s n t 34 _ q r1 H.out HR.out).mono ?_
      rintro e w1 ⟨rfl, m, hw⟩
      have H1 := Lib.hid (H.out.of_drewN hw)
      have HG1 := Lib.hid (gb_of_drewN (D := D) hw)
      clear hw
      rcases h39 with h34 | h39
      case' inl =>
        have b34 : (((q.toNat : Nat) : Int) == 34) = true := by rw [h34]; rfl
        clear h34
        have HGZ := Lib.hid HG1.out
        have HZ := Lib.hid H1.out
        clear HG1 H1
        go_wp2
      case' inr =>
        have b34 : (((q.toNat : Nat) : Int) == 34) = false := by rw [h39]; rfl
        have b39 : (((q.toNat : Nat) : Int) == 39) = true := by rw [h39]; rfl
        clear h39
        go_wp2_with fail
        refine (is_some D s n t 39 _ q r1 H1.out HR.out).mono ?_
        rintro e w1 ⟨rfl, m, hw⟩
        have H2 := Lib.hid (H1.out.of_drewN hw)
        have HG2 := Lib.hid (gb_trans HG1.out (gb_of_drewN (D := D) hw))
        clear hw H1 HG1
        have HGZ := Lib.hid HG2.out
        have HZ := Lib.hid H2.out
        clear HG2 H2
        go_wp2
      all_goals
        have c0 := HZ.out.c0
        have c1 := HZ.out.c1
        have a0 := fun o => (HZ.out.alloc o).c0
        have a1 := fun o => (HZ.out.alloc o).c1
        go_region
        generalize hW1 : World.drew _ = W1
        have hQ1 : W1.heap[w1.heap.size]? = some (.cells #[.int .u8 (q.toNat : Nat)] 5 (0, 0)) := by
          rw [← hW1, ← HX.out]; exact heap_alloc_new w1 _
        have hd1 : Dc D s n t W1 := by rw [← hW1]; exact HZ.out.alloc _
        have hg1 : w.grownBy W1 (some D) := by rw [← hW1]; exact gb_drewN (gb_alloc HGZ.out _) 1
        have hDlt := HZ.out.lt
        have HQ1 := Lib.hid hQ1
        have HG2 := Lib.hid hg1
        have d1 := hd1.c1
        have dz := hd1.fz
        have ch := hd1.c9
        have HD2 := Lib.hid ((hd1.setAt (n + 1)).setHP)
        have HG3 := Lib.hid (gb_set (gb_set hg1 1 (.int .i64 ((n + 1 : Nat) : Int))) 9 (.bool true))
        have HQ2 := Lib.hid (((Below.heap_setCell _ ⟨D, 9, none⟩ (.bool true) _ (by dsimp only; omega)).trans (Below.heap_setCell W1 ⟨D, 1, none⟩ (.int .i64 ((n + 1 : Nat) : Int)) _ (by dsimp only; omega))).trans hQ1)
        have hQD : w1.heap.size ≠ D := by omega
        have hgs := HGZ.out.size
        clear hW1 hQ1 hd1 hg1 HZ HGZ HG2 c0 c1 a0 a1
        go_wp2_with fail
        refine (upto_q D s (n + 1) _ _ r1 w1.heap.size q HQ2.out hQD (by omega) HD2.out HP.out).mono ?_
        rintro e w2 ⟨n', rfl, hp, hd, hg⟩
        have HP2 := Lib.hid hp
        have HD3 := Lib.hid hd
        have HG4 := Lib.hid (gb_trans HG3.out hg)
        have HQ3 := Lib.hid (gb_block hg HQ2.out hQD)
        have hlt : (⟨(r1.takeWhile fun c => !iq q c).toArray⟩ : ByteArray).size ≤ 268435456 := by
          have h1 := (List.takeWhile_prefix (l := r1) (fun c => !iq q c)).length_le
          have h2 := HP.out.len
          have h3 : (⟨(r1.takeWhile fun c => !iq q c).toArray⟩ : ByteArray).size = (r1.takeWhile fun c => !iq q c).length := by simp [ByteArray.size]
          omega
        have HS2 := Lib.hid (HS.out.gb HG4.out hDg)
        clear d1 dz ch hp hd hg HD2 HG3 HQ2 HQ1
        go_wp2_with fail
        refine (whole_calls _ hlt _ HS2.out).mono ?_
        rintro e w3 ⟨rfl, hb⟩
        have hd3 := HD3.out.below hb
        have cf := hd3.c7
        have fz := hd3.fz
        have HG5 := Lib.hid (gb_trans HG4.out (gb_of_below (D := D) hb))
        have HQ4 := Lib.hid ((hb.block _ (lt_of_block HQ3.out)).trans HQ3.out)
        have HD4 := Lib.hid (hd3.setP (wh (r1.takeWhile fun c => !iq q c)))
        have HG6 := Lib.hid (gb_set HG5.out 7 (.string ⟨(wh (r1.takeWhile fun c => !iq q c)).toArray⟩))
        have HQ5 := Lib.hid ((Below.heap_setCell w3 ⟨D, 7, none⟩ (.string ⟨(wh (r1.takeWhile fun c => !iq q c)).toArray⟩) _ (by dsimp only; omega)).trans HQ4.out)
        have cq : (w3.setCell ⟨D, 7, none⟩ (.string ⟨(wh (r1.takeWhile fun c => !iq q c)).toArray⟩)).cell? ⟨w1.heap.size, 0, none⟩ = some (.int .u8 (q.toNat : Nat)) := by rw [cell_of_heap' HQ5.out]; rfl
        clear hd3 hb HD3 HG4 HQ3 HG5 HQ4 HS2 hlt
        have HTAIL : ∀ x, Hid ((r1.dropWhile fun c => !iq q c) = x) → Hid (Ps s n' x) := fun x hx => by have := HP2.out; rw [hx.out] at this; exact this
        have HR1 : ∀ x, Hid ((r1.dropWhile fun c => !iq q c) = x) → Hid (qdP t (q :: r1) = (match x with
            | [] => ({ t with hp := true, pub := wh (r1.takeWhile fun c => !iq q c) }, [], true, false)
            | c :: r2 => if c = q then ({ t with hp := true, pub := wh (r1.takeWhile fun c => !iq q c) }, r2, true, true) else ({ t with hp := true, pub := wh (r1.takeWhile fun c => !iq q c) }, c :: r2, true, false))) := fun x hx => by
          unfold Hid
          rw [qdP, if_pos HQ.out, hx.out]
        cases hdw : (r1.dropWhile fun c => !iq q c) with
        | nil =>
          have HX2 := HTAIL _ hdw
          have HY := HR1 _ hdw
          clear hdw HTAIL HR1
          generalize wh (r1.takeWhile fun c => !iq q c) = id at *
          go_wp2_with fail
          refine (is_none D s n' _ _ _ HD4.out HX2.out).mono ?_
          rintro e w4 ⟨rfl, m, hw⟩
          have H5 := Lib.hid (HD4.out.of_drewN hw)
          have HG7 := Lib.hid (gb_trans HG6.out (gb_of_drewN (D := D) hw))
          clear hw
          go_wp2
          go_ret2
          unfold QdP
          rw [HY.out]
          exact ⟨n', rfl, HX2.out, H5.out, HG7.out⟩
        | cons c r2 =>
          have HX2 := HTAIL _ hdw
          have HY := HR1 _ hdw
          have hcn := c.toNat_lt
          have BQ : Hid ((((c.toNat : Nat) : Int) == ((q.toNat : Nat) : Int)) = (c == q)) := byte_eq c q
          clear hdw HTAIL HR1
          generalize wh (r1.takeWhile fun c => !iq q c) = id at *
          by_cases hcq : c = q
          · have bq : (((c.toNat : Nat) : Int) == ((q.toNat : Nat) : Int)) = true := by rw [hcq]; simp
            obtain ⟨hn2, _, hps2⟩ := HX2.out.cons
            have HP3 := Lib.hid hps2
            have HY2 : Hid (qdP t (q :: r1) = ({ t with hp := true, pub := id }, r2, true, true)) := HY.out.trans (if_pos hcq)
            clear hcq hps2 HY
            go_wp2_with fail
            refine (is_some D s n' _ _ _ c r2 HD4.out HX2.out).mono ?_
            rw [bq]
            rintro e w4 ⟨rfl, m, hw⟩
            have hd5 := HD4.out.of_drewN hw
            have H5 := Lib.hid hd5
            have HG7 := Lib.hid (gb_trans HG6.out (gb_of_drewN (D := D) hw))
            have d1 := hd5.c1
            have dz := hd5.fz
            clear hw hd5 fz cf cq
            go_wp2
            go_ret2
            unfold QdP
            rw [HY2.out]
            exact ⟨n' + 1, rfl, HP3.out, H5.out.setAt _, gb_set HG7.out _ _⟩
          · have bq : (((c.toNat : Nat) : Int) == ((q.toNat : Nat) : Int)) = false := by rw [BQ.out]; simpa using hcq
            have HY2 : Hid (qdP t (q :: r1) = ({ t with hp := true, pub := id }, c :: r2, true, false)) := HY.out.trans (if_neg hcq)
            clear hcq HY
            go_wp2_with fail
            refine (is_some D s n' _ _ _ c r2 HD4.out HX2.out).mono ?_
            rw [bq]
            rintro e w4 ⟨rfl, m, hw⟩
            have H5 := Lib.hid (HD4.out.of_drewN hw)
            have HG7 := Lib.hid (gb_trans HG6.out (gb_of_drewN (D := D) hw))
            clear hw
            go_wp2
            go_ret2
            unfold QdP
            rw [HY2.out]
            exact ⟨n', rfl, HX2.out, H5.out, HG7.out⟩
    · -- none stands there
      have b34 : (((q.toNat : Nat) : Int) == 34) = false := by rw [B34.out]; unfold isQ at hQ; simp at hQ; simpa using hQ.1
      have b39 : (((q.toNat : Nat) : Int) == 39) = false := by rw [B39.out]; unfold isQ at hQ; simp at hQ; simpa using hQ.2
      have HY : Hid (qdP t (q :: r1) = (t, q :: r1, false, false)) := by unfold Hid; rw [qdP, if_neg hQ]
      clear h hr hsh hx hps hQ
      go_enter Tryd.func38, Tryd.ntmps38
      go_wp2_with fail
      refine (is_some D s n t 34 _ q r1 H.out HR.out).mono ?_
      rw [b34]
      rintro e w1 ⟨rfl, m, hw⟩
      have H1 := Lib.hid (H.out.of_drewN hw)
      have HG1 := Lib.hid (gb_of_drewN (D := D) hw)
      clear hw
      go_wp2_with fail
      refine (is_some D s n t 39 _ q r1 H1.out HR.out).mono ?_
      rw [b39]
      rintro e w2 ⟨rfl, m, hw⟩
      have H2 := Lib.hid (H1.out.of_drewN hw)
      have HG2 := Lib.hid (gb_of_drewN (D := D) hw)
      clear hw
      go_wp2
      go_ret2
      unfold QdP
      rw [HY.out]
      exact ⟨n, rfl, HR.out, H2.out, gb_trans HG1.out HG2.out⟩

/-- What the system identifier leaves: the token, what stands behind, whether one was found, whether it is shut. -/
def qdS (t : Tk) (r : List UInt8) : Tk × List UInt8 × Bool × Bool :=
  match r with
  | [] => (t, [], false, false)
  | q :: r1 =>
    if isQ q then
      (match r1.dropWhile fun c => !iq q c with
        | [] => ({ t with hs := true, sys := wh (r1.takeWhile fun c => !iq q c) }, [], true, false)
        | c :: r2 => if c = q then ({ t with hs := true, sys := wh (r1.takeWhile fun c => !iq q c) }, r2, true, true) else ({ t with hs := true, sys := wh (r1.takeWhile fun c => !iq q c) }, c :: r2, true, false))
    else (t, q :: r1, false, false)
def QdS (D : Nat) (s : ByteArray) (t : Tk) (r : List UInt8) (w : World) (e : Ending) (w' : World) : Prop :=
  ∃ n', e = .returned (.tuple #[.bool (qdS t r).2.2.1, .bool (qdS t r).2.2.2]) ∧ Ps s n' (qdS t r).2.1 ∧ Dc D s n' (qdS t r).1 w' ∧ w.grownBy w' (some D)

set_option maxRecDepth 100000 in
set_option maxHeartbeats 2000000 in
theorem quotedS_calls (D : Nat) (s : ByteArray) (n : Nat) (t : Tk) (w : World) (r : List UInt8) (hs : s.size ≤ 268435456) (h : Dc D s n t w) (hr : Ps s n r) (hsh : Sh w) (hDg : 0 ≠ D) :
    Calls Tryd.prog 38 #[.pointer (some ⟨D, 0, none⟩), .pointer (some ⟨D, 8, none⟩), .pointer (some ⟨D, 10, none⟩)] w (QdS D s t r w) := by
  have H := Lib.hid h
  have HR := Lib.hid hr
  have HS := Lib.hid hsh
  match r, HR with
  | [], HR =>
    clear h hr hsh
    go_enter Tryd.func38, Tryd.ntmps38
    go_wp2_with fail
    refine (is_none D s n t 34 _ H.out HR.out).mono ?_
    rintro e w1 ⟨rfl, m, hw⟩
    have H1 := Lib.hid (H.out.of_drewN hw)
    have HG1 := Lib.hid (gb_of_drewN (D := D) hw)
    clear hw
    go_wp2_with fail
    refine (is_none D s n t 39 _ H1.out HR.out).mono ?_
    rintro e w2 ⟨rfl, m, hw⟩
    have H2 := Lib.hid (H1.out.of_drewN hw)
    have HG2 := Lib.hid (gb_of_drewN (D := D) hw)
    clear hw
    go_wp2
    go_ret2
    exact ⟨n, rfl, HR.out, H2.out, gb_trans HG1.out HG2.out⟩
  | q :: r1, HR =>
    obtain ⟨hn, hx, hps⟩ := HR.out.cons
    have HX := Lib.hid hx
    have HP := Lib.hid hps
    have hq := q.toNat_lt
    have B34 : Hid (((((q.toNat : Nat) : Int) == 34)) = (q == 34)) := byte_eq q 34
    have B39 : Hid (((((q.toNat : Nat) : Int) == 39)) = (q == 39)) := byte_eq q 39
    by_cases hQ : isQ q = true
    · -- a quote stands there
      have HQ := Lib.hid hQ
      have h0 : (0 : Int) ≤ n := by omega
      have h1 : (n : Int) < s.size := by omega
      have h39 : q = 34 ∨ q = 39 := by unfold isQ at hQ; simpa using hQ
      clear h hr hsh hx hps hQ
      go_enter Tryd.func38, Tryd.ntmps38
      go_wp2_with fail
      refine (is_some D s n t 34 _ q r1 H.out HR.out).mono ?_
      rintro e w1 ⟨rfl, m, hw⟩
      have H1 := Lib.hid (H.out.of_drewN hw)
      have HG1 := Lib.hid (gb_of_drewN (D := D) hw)
      clear hw
      rcases h39 with h34 | h39
      case' inl =>
        have b34 : (((q.toNat : Nat) : Int) == 34) = true := by rw [h34]; rfl
        clear h34
        have HGZ := Lib.hid HG1.out
        have HZ := Lib.hid H1.out
        clear HG1 H1
        go_wp2
      case' inr =>
        have b34 : (((q.toNat : Nat) : Int) == 34) = false := by rw [h39]; rfl
        have b39 : (((q.toNat : Nat) : Int) == 39) = true := by rw [h39]; rfl
        clear h39
        go_wp2_with fail
        refine (is_some D s n t 39 _ q r1 H1.out HR.out).mono ?_
        rintro e w1 ⟨rfl, m, hw⟩
        have H2 := Lib.hid (H1.out.of_drewN hw)
        have HG2 := Lib.hid (gb_trans HG1.out (gb_of_drewN (D := D) hw))
        clear hw H1 HG1
        have HGZ := Lib.hid HG2.out
        have HZ := Lib.hid H2.out
        clear HG2 H2
        go_wp2
      all_goals
        have c0 := HZ.out.c0
        have c1 := HZ.out.c1
        have a0 := fun o => (HZ.out.alloc o).c0
        have a1 := fun o => (HZ.out.alloc o).c1
        go_region
        generalize hW1 : World.drew _ = W1
        have hQ1 : W1.heap[w1.heap.size]? = some (.cells #[.int .u8 (q.toNat : Nat)] 5 (0, 0)) := by
          rw [← hW1, ← HX.out]; exact heap_alloc_new w1 _
        have hd1 : Dc D s n t W1 := by rw [← hW1]; exact HZ.out.alloc _
        have hg1 : w.grownBy W1 (some D) := by rw [← hW1]; exact gb_drewN (gb_alloc HGZ.out _) 1
        have hDlt := HZ.out.lt
        have HQ1 := Lib.hid hQ1
        have HG2 := Lib.hid hg1
        have d1 := hd1.c1
        have dz := hd1.fz
        have ch := hd1.c10
        have HD2 := Lib.hid ((hd1.setAt (n + 1)).setHS)
        have HG3 := Lib.hid (gb_set (gb_set hg1 1 (.int .i64 ((n + 1 : Nat) : Int))) 10 (.bool true))
        have HQ2 := Lib.hid (((Below.heap_setCell _ ⟨D, 10, none⟩ (.bool true) _ (by dsimp only; omega)).trans (Below.heap_setCell W1 ⟨D, 1, none⟩ (.int .i64 ((n + 1 : Nat) : Int)) _ (by dsimp only; omega))).trans hQ1)
        have hQD : w1.heap.size ≠ D := by omega
        have hgs := HGZ.out.size
        clear hW1 hQ1 hd1 hg1 HZ HGZ HG2 c0 c1 a0 a1
        go_wp2_with fail
        refine (upto_q D s (n + 1) _ _ r1 w1.heap.size q HQ2.out hQD (by omega) HD2.out HP.out).mono ?_
        rintro e w2 ⟨n', rfl, hp, hd, hg⟩
        have HP2 := Lib.hid hp
        have HD3 := Lib.hid hd
        have HG4 := Lib.hid (gb_trans HG3.out hg)
        have HQ3 := Lib.hid (gb_block hg HQ2.out hQD)
        have hlt : (⟨(r1.takeWhile fun c => !iq q c).toArray⟩ : ByteArray).size ≤ 268435456 := by
          have h1 := (List.takeWhile_prefix (l := r1) (fun c => !iq q c)).length_le
          have h2 := HP.out.len
          have h3 : (⟨(r1.takeWhile fun c => !iq q c).toArray⟩ : ByteArray).size = (r1.takeWhile fun c => !iq q c).length := by simp [ByteArray.size]
          omega
        have HS2 := Lib.hid (HS.out.gb HG4.out hDg)
        clear d1 dz ch hp hd hg HD2 HG3 HQ2 HQ1
        go_wp2_with fail
        refine (whole_calls _ hlt _ HS2.out).mono ?_
        rintro e w3 ⟨rfl, hb⟩
        have hd3 := HD3.out.below hb
        have cf := hd3.c8
        have fz := hd3.fz
        have HG5 := Lib.hid (gb_trans HG4.out (gb_of_below (D := D) hb))
        have HQ4 := Lib.hid ((hb.block _ (lt_of_block HQ3.out)).trans HQ3.out)
        have HD4 := Lib.hid (hd3.setS (wh (r1.takeWhile fun c => !iq q c)))
        have HG6 := Lib.hid (gb_set HG5.out 8 (.string ⟨(wh (r1.takeWhile fun c => !iq q c)).toArray⟩))
        have HQ5 := Lib.hid ((Below.heap_setCell w3 ⟨D, 8, none⟩ (.string ⟨(wh (r1.takeWhile fun c => !iq q c)).toArray⟩) _ (by dsimp only; omega)).trans HQ4.out)
        have cq : (w3.setCell ⟨D, 8, none⟩ (.string ⟨(wh (r1.takeWhile fun c => !iq q c)).toArray⟩)).cell? ⟨w1.heap.size, 0, none⟩ = some (.int .u8 (q.toNat : Nat)) := by rw [cell_of_heap' HQ5.out]; rfl
        clear hd3 hb HD3 HG4 HQ3 HG5 HQ4 HS2 hlt
        have HTAIL : ∀ x, Hid ((r1.dropWhile fun c => !iq q c) = x) → Hid (Ps s n' x) := fun x hx => by have := HP2.out; rw [hx.out] at this; exact this
        have HR1 : ∀ x, Hid ((r1.dropWhile fun c => !iq q c) = x) → Hid (qdS t (q :: r1) = (match x with
            | [] => ({ t with hs := true, sys := wh (r1.takeWhile fun c => !iq q c) }, [], true, false)
            | c :: r2 => if c = q then ({ t with hs := true, sys := wh (r1.takeWhile fun c => !iq q c) }, r2, true, true) else ({ t with hs := true, sys := wh (r1.takeWhile fun c => !iq q c) }, c :: r2, true, false))) := fun x hx => by
          unfold Hid
          rw [qdS, if_pos HQ.out, hx.out]
        cases hdw : (r1.dropWhile fun c => !iq q c) with
        | nil =>
          have HX2 := HTAIL _ hdw
          have HY := HR1 _ hdw
          clear hdw HTAIL HR1
          generalize wh (r1.takeWhile fun c => !iq q c) = id at *
          go_wp2_with fail
          refine (is_none D s n' _ _ _ HD4.out HX2.out).mono ?_
          rintro e w4 ⟨rfl, m, hw⟩
          have H5 := Lib.hid (HD4.out.of_drewN hw)
          have HG7 := Lib.hid (gb_trans HG6.out (gb_of_drewN (D := D) hw))
          clear hw
          go_wp2
          go_ret2
          unfold QdS
          rw [HY.out]
          exact ⟨n', rfl, HX2.out, H5.out, HG7.out⟩
        | cons c r2 =>
          have HX2 := HTAIL _ hdw
          have HY := HR1 _ hdw
          have hcn := c.toNat_lt
          have BQ : Hid ((((c.toNat : Nat) : Int) == ((q.toNat : Nat) : Int)) = (c == q)) := byte_eq c q
          clear hdw HTAIL HR1
          generalize wh (r1.takeWhile fun c => !iq q c) = id at *
          by_cases hcq : c = q
          · have bq : (((c.toNat : Nat) : Int) == ((q.toNat : Nat) : Int)) = true := by rw [hcq]; simp
            obtain ⟨hn2, _, hps2⟩ := HX2.out.cons
            have HP3 := Lib.hid hps2
            have HY2 : Hid (qdS t (q :: r1) = ({ t with hs := true, sys := id }, r2, true, true)) := HY.out.trans (if_pos hcq)
            clear hcq hps2 HY
            go_wp2_with fail
            refine (is_some D s n' _ _ _ c r2 HD4.out HX2.out).mono ?_
            rw [bq]
            rintro e w4 ⟨rfl, m, hw⟩
            have hd5 := HD4.out.of_drewN hw
            have H5 := Lib.hid hd5
            have HG7 := Lib.hid (gb_trans HG6.out (gb_of_drewN (D := D) hw))
            have d1 := hd5.c1
            have dz := hd5.fz
            clear hw hd5 fz cf cq
            go_wp2
            go_ret2
            unfold QdS
            rw [HY2.out]
            exact ⟨n' + 1, rfl, HP3.out, H5.out.setAt _, gb_set HG7.out _ _⟩
          · have bq : (((c.toNat : Nat) : Int) == ((q.toNat : Nat) : Int)) = false := by rw [BQ.out]; simpa using hcq
            have HY2 : Hid (qdS t (q :: r1) = ({ t with hs := true, sys := id }, c :: r2, true, false)) := HY.out.trans (if_neg hcq)
            clear hcq HY
            go_wp2_with fail
            refine (is_some D s n' _ _ _ c r2 HD4.out HX2.out).mono ?_
            rw [bq]
            rintro e w4 ⟨rfl, m, hw⟩
            have H5 := Lib.hid (HD4.out.of_drewN hw)
            have HG7 := Lib.hid (gb_trans HG6.out (gb_of_drewN (D := D) hw))
            clear hw
            go_wp2
            go_ret2
            unfold QdS
            rw [HY2.out]
            exact ⟨n', rfl, HX2.out, H5.out, HG7.out⟩
    · -- none stands there
      have b34 : (((q.toNat : Nat) : Int) == 34) = false := by rw [B34.out]; unfold isQ at hQ; simp at hQ; simpa using hQ.1
      have b39 : (((q.toNat : Nat) : Int) == 39) = false := by rw [B39.out]; unfold isQ at hQ; simp at hQ; simpa using hQ.2
      have HY : Hid (qdS t (q :: r1) = (t, q :: r1, false, false)) := by unfold Hid; rw [qdS, if_neg hQ]
      clear h hr hsh hx hps hQ
      go_enter Tryd.func38, Tryd.ntmps38
      go_wp2_with fail
      refine (is_some D s n t 34 _ q r1 H.out HR.out).mono ?_
      rw [b34]
      rintro e w1 ⟨rfl, m, hw⟩
      have H1 := Lib.hid (H.out.of_drewN hw)
      have HG1 := Lib.hid (gb_of_drewN (D := D) hw)
      clear hw
      go_wp2_with fail
      refine (is_some D s n t 39 _ q r1 H1.out HR.out).mono ?_
      rw [b39]
      rintro e w2 ⟨rfl, m, hw⟩
      have H2 := Lib.hid (H1.out.of_drewN hw)
      have HG2 := Lib.hid (gb_of_drewN (D := D) hw)
      clear hw
      go_wp2
      go_ret2
      unfold QdS
      rw [HY.out]
      exact ⟨n, rfl, HR.out, H2.out, gb_trans HG1.out HG2.out⟩
end Go.Proofs.YtileclmmobkcaaaDoor
