/-
  The contract of mark.declaration's method run: it takes a DOCTYPE. The condition: the text takes at most 2 to the 28th bytes; MaxLen holds some number.
-/
import Derived.Test.YtileclmmobkcaaaDoorMdh
import Derived.StillTailTactics
set_option linter.unusedVariables false
namespace Go.Proofs.YtileclmmobkcaaaDoor
open Go.RowKit Go.Shelf

theorem dt_first (r : List UInt8) : dt r = if eb (db r) then clo true { kind := 5 } (db r) else dtA { kind := 5, name := wh (lw ((db r).takeWhile inm)) } (db ((db r).dropWhile inm)) := rfl
theorem dtA_eq (t : Tk) (r : List UInt8) : dtA t r = if eb r then clo r.isEmpty t r else if wd wPub r then dtP t (db (r.drop 6)) else if wd wSys r then dtS t (db (r.drop 6)) else rst { t with q := true } r := rfl
def aftS (x : Tk × List UInt8 × Bool × Bool) : Tk × List UInt8 × Bool := if x.2.2.1 = false then rst { x.1 with q := true } x.2.1 else if x.2.2.2 = false then clo true { x.1 with q := true } x.2.1 else
    (match db x.2.1 with | [] => clo true x.1 [] | d :: r3 => rst x.1 (d :: r3))
def aftP (x : Tk × List UInt8 × Bool × Bool) : Tk × List UInt8 × Bool := if x.2.2.1 = false then rst { x.1 with q := true } x.2.1 else if x.2.2.2 = false then clo true { x.1 with q := true } x.2.1 else
    if eb (db x.2.1) then clo (db x.2.1).isEmpty x.1 (db x.2.1) else dtS x.1 (db x.2.1)
theorem dtS_qd (t : Tk) (r : List UInt8) : dtS t r = aftS (qdS t r) := by
  match r with
  | [] => rfl
  | q :: r1 =>
    rw [dtS, qdS]
    by_cases hQ : isQ q = true
    · rw [if_pos hQ, if_pos hQ]
      dsimp only
      cases hd : (r1.dropWhile fun c => !iq q c) with
      | nil => rfl
      | cons c r2 =>
        dsimp only
        by_cases hc : c = q
        · rw [if_pos hc, if_pos hc]; rfl
        · rw [if_neg hc, if_neg hc]; rfl
    · rw [if_neg hQ, if_neg hQ]; rfl
theorem dtP_qd (t : Tk) (r : List UInt8) : dtP t r = aftP (qdP t r) := by
  match r with
  | [] => rfl
  | q :: r1 =>
    rw [dtP, qdP]
    by_cases hQ : isQ q = true
    · rw [if_pos hQ, if_pos hQ]
      dsimp only
      cases hd : (r1.dropWhile fun c => !iq q c) with
      | nil => rfl
      | cons c r2 =>
        dsimp only
        by_cases hc : c = q
        · rw [if_pos hc, if_pos hc]; rfl
        · rw [if_neg hc, if_neg hc]; rfl
    · rw [if_neg hQ, if_neg hQ]; rfl
theorem word_yes (D : Nat) (s W : ByteArray) (n : Nat) (t : Tk) (w : World) (r : List UInt8) (k : Nat) (hk : k = W.size) (hs : s.size ≤ 1099511627776) (hW : W.size ≤ 100) (h : Dc D s n t w) (hr : Ps s n r) (hw : wd W.data.toList r = true) :
    Calls Tryd.prog 37 #[.pointer (some ⟨D, 0, none⟩), .string W] w (Res D s w (t, r.drop k, true)) := by
  have := word_calls D s W n t w r hs hW h hr
  rw [hw] at this
  rw [hk]
  exact this
theorem word_no (D : Nat) (s W : ByteArray) (n : Nat) (t : Tk) (w : World) (r : List UInt8) (hs : s.size ≤ 1099511627776) (hW : W.size ≤ 100) (h : Dc D s n t w) (hr : Ps s n r) (hw : wd W.data.toList r = false) :
    Calls Tryd.prog 37 #[.pointer (some ⟨D, 0, none⟩), .string W] w (Res D s w (t, r, false)) := by
  have := word_calls D s W n t w r hs hW h hr
  rw [hw] at this
  exact this
theorem eb_no (c : UInt8) (r : List UInt8) (h : c ≠ 62) : ¬ eb (c :: r) = true := by simp [eb, h]

set_option maxRecDepth 100000 in
set_option maxHeartbeats 4000000 in
theorem run_calls (D : Nat) (s : ByteArray) (n : Nat) (w : World) (r : List UInt8) (hs : s.size ≤ 268435456) (h : Dc D s n { kind := 0 } w) (hr : Ps s n r) (hsh : Sh w) (hDg : 0 ≠ D) :
    Calls Tryd.prog 17 #[.pointer (some ⟨D, 0, none⟩)] w (Res D s w (dt r)) := by
  have c2 := h.c2
  have fz := h.fz
  have HR := Lib.hid hr
  have HS := Lib.hid hsh
  have HD : Hid (Dc D s n { kind := 5 } (w.setCell ⟨D, 2, none⟩ (.int .u8 5))) := h.setK
  have HG := Lib.hid (gb_set (World.grownBy.refl w (some D)) 2 (.int .u8 5))
  have KEY := Lib.hid (dt_first r)
  clear h hr hsh
  go_enter Tryd.func17, Tryd.ntmps17
  go_wp2_with fail
  refine (blanks_calls D s _ _ _ _ (by omega) HD.out HR.out).mono ?_
  rintro e wz ⟨n, rfl, hp, hd, hg⟩
  replace HR := Lib.hid hp
  replace HG := Lib.hid (gb_trans HG.out hg)
  replace HD := Lib.hid hd
  clear hp hd hg
  clear c2 fz
  generalize db r = R1 at *
  cases R1 with
  | nil =>
    go_wp2_with fail
    refine (ended_yes D s _ _ _ HD.out HR.out).mono ?_
    rintro e wz ⟨rfl, m, hw⟩
    replace HG := Lib.hid (gb_trans HG.out (gb_of_drewN (D := D) hw))
    have HD := Lib.hid (HD.out.of_drewN hw)
    clear hw
    go_wp2_with fail
    refine (close_calls D s _ _ _ true _ (by omega) HD.out HR.out).mono ?_
    intro e wz hres
    obtain ⟨n, rfl, hp, hd, hg⟩ := hres
    replace HR := Lib.hid hp
    replace HG := Lib.hid (gb_trans HG.out hg)
    replace HD := Lib.hid hd
    clear hp hd hg
    go_wp2
    go_ret
    rw [KEY.out]
    exact ⟨n, rfl, HR.out, HD.out, HG.out⟩
  | cons c r2 =>
    go_wp2_with fail
    refine (ended_no D s _ _ _ HD.out (HR.out.cons).1).mono ?_
    rintro e wz ⟨rfl, m, hw⟩
    replace HG := Lib.hid (gb_trans HG.out (gb_of_drewN (D := D) hw))
    have HD := Lib.hid (HD.out.of_drewN hw)
    clear hw
    by_cases hc : c = 62
    · subst hc
      have hb : ((((62 : UInt8).toNat : Nat) : Int) == 62) = true := rfl
      go_wp2_with fail
      refine (is_some D s _ _ 62 _ _ _ HD.out HR.out).mono ?_
      rw [hb]
      rintro e wz ⟨rfl, m, hw⟩
      replace HG := Lib.hid (gb_trans HG.out (gb_of_drewN (D := D) hw))
      have HD := Lib.hid (HD.out.of_drewN hw)
      clear hw hb
      go_wp2_with fail
      refine (close_calls D s _ _ _ true _ (by omega) HD.out HR.out).mono ?_
      intro e wz hres
      obtain ⟨n, rfl, hp, hd, hg⟩ := hres
      replace HR := Lib.hid hp
      replace HG := Lib.hid (gb_trans HG.out hg)
      replace HD := Lib.hid hd
      clear hp hd hg
      go_wp2
      go_ret
      rw [KEY.out]
      exact ⟨n, rfl, HR.out, HD.out, HG.out⟩
    · have hb : (((c.toNat : Nat) : Int) == 62) = false := by
        have := byte_eq c 62
        rw [show ((62 : UInt8).toNat : Int) = 62 from rfl] at this
        rw [this]; simpa using hc
      have HC := Lib.hid hc
      clear hc
      go_wp2_with fail
      refine (is_some D s _ _ 62 _ _ _ HD.out HR.out).mono ?_
      rw [hb]
      rintro e wz ⟨rfl, m, hw⟩
      replace HG := Lib.hid (gb_trans HG.out (gb_of_drewN (D := D) hw))
      have HD := Lib.hid (HD.out.of_drewN hw)
      clear hw hb
      replace KEY := Lib.hid (KEY.out.trans (if_neg (eb_no c r2 HC.out)))
      have hlt : ((c :: r2).takeWhile inm).length ≤ 268435456 := by
        have h1 := (List.takeWhile_prefix (l := c :: r2) inm).length_le
        have h2 := HR.out.len
        omega
      go_wp2_with fail
      refine (upto_nm D s _ _ _ _ (by omega) HD.out HR.out).mono ?_
      rintro e wz ⟨n, rfl, hp, hd, hg⟩
      replace HR := Lib.hid hp
      replace HG := Lib.hid (gb_trans HG.out hg)
      replace HD := Lib.hid hd
      clear hp hd hg
      generalize (c :: r2).takeWhile inm = nm at *
      generalize (c :: r2).dropWhile inm = R1 at *
      clear HC
      go_wp2_with fail
      refine (lower_calls ⟨nm.toArray⟩ (by simp [ByteArray.size]; omega) _).mono ?_
      rintro e wz ⟨rfl, hb⟩
      replace HG := Lib.hid (gb_trans HG.out (gb_of_below (D := D) hb))
      have HD := Lib.hid (HD.out.below hb)
      clear hb
      go_wp2_with fail
      refine (whole_calls ⟨(lwr nm).toArray⟩ (by simp [ByteArray.size, lwr]; omega) _ (HS.out.gb HG.out hDg)).mono ?_
      rintro e wz ⟨rfl, hb⟩
      have hd := HD.out.below hb
      have HG := Lib.hid (gb_set (gb_trans HG.out (gb_of_below (D := D) hb)) 3 (.string ⟨(wh (lw nm)).toArray⟩))
      have c3 := hd.c3
      have fz := hd.fz
      have HD := Lib.hid (hd.setN (wh (lw nm)))
      clear hb hd
      go_wp2_with fail
      refine (blanks_calls D s _ _ _ _ (by omega) HD.out HR.out).mono ?_
      rintro e wz ⟨n, rfl, hp, hd, hg⟩
      replace HR := Lib.hid hp
      replace HG := Lib.hid (gb_trans HG.out hg)
      replace HD := Lib.hid hd
      clear hp hd hg
      clear c3 fz
      have KEY := Lib.hid (KEY.out.trans (dtA_eq _ _))
      generalize db R1 = R1 at *
      generalize wh (lw nm) = nm2 at *
      cases R1 with
      | nil =>
        go_wp2_with fail
        refine (ended_yes D s _ _ _ HD.out HR.out).mono ?_
        rintro e wz ⟨rfl, m, hw⟩
        replace HG := Lib.hid (gb_trans HG.out (gb_of_drewN (D := D) hw))
        have HD := Lib.hid (HD.out.of_drewN hw)
        clear hw
        go_wp2_with fail
        refine (ended_yes D s _ _ _ HD.out HR.out).mono ?_
        rintro e wz ⟨rfl, m, hw⟩
        replace HG := Lib.hid (gb_trans HG.out (gb_of_drewN (D := D) hw))
        have HD := Lib.hid (HD.out.of_drewN hw)
        clear hw
        go_wp2_with fail
        refine (close_calls D s _ _ _ true _ (by omega) HD.out HR.out).mono ?_
        intro e wz hres
        obtain ⟨n, rfl, hp, hd, hg⟩ := hres
        replace HR := Lib.hid hp
        replace HG := Lib.hid (gb_trans HG.out hg)
        replace HD := Lib.hid hd
        clear hp hd hg
        go_wp2
        go_ret
        rw [KEY.out]
        exact ⟨n, rfl, HR.out, HD.out, HG.out⟩
      | cons c r2 =>
        go_wp2_with fail
        refine (ended_no D s _ _ _ HD.out (HR.out.cons).1).mono ?_
        rintro e wz ⟨rfl, m, hw⟩
        replace HG := Lib.hid (gb_trans HG.out (gb_of_drewN (D := D) hw))
        have HD := Lib.hid (HD.out.of_drewN hw)
        clear hw
        by_cases hc : c = 62
        · subst hc
          have hb : ((((62 : UInt8).toNat : Nat) : Int) == 62) = true := rfl
          go_wp2_with fail
          refine (is_some D s _ _ 62 _ _ _ HD.out HR.out).mono ?_
          rw [hb]
          rintro e wz ⟨rfl, m, hw⟩
          replace HG := Lib.hid (gb_trans HG.out (gb_of_drewN (D := D) hw))
          have HD := Lib.hid (HD.out.of_drewN hw)
          clear hw hb
          go_wp2_with fail
          refine (ended_no D s _ _ _ HD.out (HR.out.cons).1).mono ?_
          rintro e wz ⟨rfl, m, hw⟩
          replace HG := Lib.hid (gb_trans HG.out (gb_of_drewN (D := D) hw))
          have HD := Lib.hid (HD.out.of_drewN hw)
          clear hw
          go_wp2_with fail
          refine (close_calls D s _ _ _ false _ (by omega) HD.out HR.out).mono ?_
          intro e wz hres
          obtain ⟨n, rfl, hp, hd, hg⟩ := hres
          replace HR := Lib.hid hp
          replace HG := Lib.hid (gb_trans HG.out hg)
          replace HD := Lib.hid hd
          clear hp hd hg
          go_wp2
          go_ret
          rw [KEY.out]
          exact ⟨n, rfl, HR.out, HD.out, HG.out⟩
        · have hb : (((c.toNat : Nat) : Int) == 62) = false := by
            have := byte_eq c 62
            rw [show ((62 : UInt8).toNat : Int) = 62 from rfl] at this
            rw [this]; simpa using hc
          have HC := Lib.hid hc
          clear hc
          go_wp2_with fail
          refine (is_some D s _ _ 62 _ _ _ HD.out HR.out).mono ?_
          rw [hb]
          rintro e wz ⟨rfl, m, hw⟩
          replace HG := Lib.hid (gb_trans HG.out (gb_of_drewN (D := D) hw))
          have HD := Lib.hid (HD.out.of_drewN hw)
          clear hw hb
          replace KEY := Lib.hid (KEY.out.trans (if_neg (eb_no c r2 HC.out)))
          generalize c :: r2 = R1 at *
          cases hw : wd wPub R1 with
          | true =>
            replace KEY := Lib.hid (KEY.out.trans (if_pos hw))
            have HW := Lib.hid hw
            clear hw
            go_wp2_with fail
            refine (word_yes D s ⟨#[112, 117, 98, 108, 105, 99]⟩ _ _ _ _ 6 rfl (by omega) (by decide) HD.out HR.out HW.out).mono ?_
            intro e wz hres
            obtain ⟨n, rfl, hp, hd, hg⟩ := hres
            replace HR := Lib.hid hp
            replace HG := Lib.hid (gb_trans HG.out hg)
            replace HD := Lib.hid hd
            clear hp hd hg
            go_wp2_with fail
            refine (blanks_calls D s _ _ _ _ (by omega) HD.out HR.out).mono ?_
            rintro e wz ⟨n, rfl, hp, hd, hg⟩
            replace HR := Lib.hid hp
            replace HG := Lib.hid (gb_trans HG.out hg)
            replace HD := Lib.hid hd
            clear hp hd hg
            generalize db (R1.drop 6) = R1 at *
            replace HG : Hid (w.grownBy (World.drew _) (some D)) := gb_drewN HG.out 1
            go_wp2_with fail
            go_region_with (go_at_call 38; refine (quotedP_calls D s _ _ (World.drew _) _ hs HD.out HR.out (HS.out.gb HG.out hDg) hDg).mono ?_; intro e wz hres; obtain ⟨n, rfl, hp, hd, hg⟩ := hres)
            replace HR := Lib.hid hp
            replace HG := Lib.hid (gb_trans HG.out hg)
            replace HD := Lib.hid hd
            clear hp hd hg
            replace KEY := Lib.hid (KEY.out.trans (dtP_qd _ R1))
            generalize qdP _ R1 = x at *
            obtain ⟨T, R1, fo, sh⟩ := x
            dsimp only at KEY HR HD
            cases fo with
            | false =>
              go_wp2_with fail
              refine (broken_out D s _ _ _ _ (by omega) HD.out HR.out).mono ?_
              intro e wz hres
              obtain ⟨n, rfl, hp, hd, hg⟩ := hres
              replace HR := Lib.hid hp
              replace HG := Lib.hid (gb_trans HG.out hg)
              replace HD := Lib.hid hd
              clear hp hd hg
              go_wp2
              go_ret
              rw [KEY.out]
              exact ⟨n, rfl, HR.out, HD.out, HG.out⟩
            | true =>
              cases sh with
              | false =>
                go_wp2_with fail
                refine (broken_in D s _ _ _ _ (by omega) HD.out HR.out).mono ?_
                intro e wz hres
                obtain ⟨n, rfl, hp, hd, hg⟩ := hres
                replace HR := Lib.hid hp
                replace HG := Lib.hid (gb_trans HG.out hg)
                replace HD := Lib.hid hd
                clear hp hd hg
                go_wp2
                go_ret
                rw [KEY.out]
                exact ⟨n, rfl, HR.out, HD.out, HG.out⟩
              | true =>
                replace KEY : Hid (dt r = if eb (db R1) then clo (db R1).isEmpty T (db R1) else dtS T (db R1)) := KEY.out
                go_wp2_with fail
                refine (blanks_calls D s _ _ _ _ (by omega) HD.out HR.out).mono ?_
                rintro e wz ⟨n, rfl, hp, hd, hg⟩
                replace HR := Lib.hid hp
                replace HG := Lib.hid (gb_trans HG.out hg)
                replace HD := Lib.hid hd
                clear hp hd hg
                generalize db R1 = R1 at *
                cases R1 with
                | nil =>
                  go_wp2_with fail
                  refine (ended_yes D s _ _ _ HD.out HR.out).mono ?_
                  rintro e wz ⟨rfl, m, hw⟩
                  replace HG := Lib.hid (gb_trans HG.out (gb_of_drewN (D := D) hw))
                  have HD := Lib.hid (HD.out.of_drewN hw)
                  clear hw
                  go_wp2_with fail
                  refine (ended_yes D s _ _ _ HD.out HR.out).mono ?_
                  rintro e wz ⟨rfl, m, hw⟩
                  replace HG := Lib.hid (gb_trans HG.out (gb_of_drewN (D := D) hw))
                  have HD := Lib.hid (HD.out.of_drewN hw)
                  clear hw
                  go_wp2_with fail
                  refine (close_calls D s _ _ _ true _ (by omega) HD.out HR.out).mono ?_
                  intro e wz hres
                  obtain ⟨n, rfl, hp, hd, hg⟩ := hres
                  replace HR := Lib.hid hp
                  replace HG := Lib.hid (gb_trans HG.out hg)
                  replace HD := Lib.hid hd
                  clear hp hd hg
                  go_wp2
                  go_ret
                  rw [KEY.out]
                  exact ⟨n, rfl, HR.out, HD.out, HG.out⟩
                | cons c r2 =>
                  go_wp2_with fail
                  refine (ended_no D s _ _ _ HD.out (HR.out.cons).1).mono ?_
                  rintro e wz ⟨rfl, m, hw⟩
                  replace HG := Lib.hid (gb_trans HG.out (gb_of_drewN (D := D) hw))
                  have HD := Lib.hid (HD.out.of_drewN hw)
                  clear hw
                  by_cases hc : c = 62
                  · subst hc
                    have hb : ((((62 : UInt8).toNat : Nat) : Int) == 62) = true := rfl
                    go_wp2_with fail
                    refine (is_some D s _ _ 62 _ _ _ HD.out HR.out).mono ?_
                    rw [hb]
                    rintro e wz ⟨rfl, m, hw⟩
                    replace HG := Lib.hid (gb_trans HG.out (gb_of_drewN (D := D) hw))
                    have HD := Lib.hid (HD.out.of_drewN hw)
                    clear hw hb
                    go_wp2_with fail
                    refine (ended_no D s _ _ _ HD.out (HR.out.cons).1).mono ?_
                    rintro e wz ⟨rfl, m, hw⟩
                    replace HG := Lib.hid (gb_trans HG.out (gb_of_drewN (D := D) hw))
                    have HD := Lib.hid (HD.out.of_drewN hw)
                    clear hw
                    go_wp2_with fail
                    refine (close_calls D s _ _ _ false _ (by omega) HD.out HR.out).mono ?_
                    intro e wz hres
                    obtain ⟨n, rfl, hp, hd, hg⟩ := hres
                    replace HR := Lib.hid hp
                    replace HG := Lib.hid (gb_trans HG.out hg)
                    replace HD := Lib.hid hd
                    clear hp hd hg
                    go_wp2
                    go_ret
                    rw [KEY.out]
                    exact ⟨n, rfl, HR.out, HD.out, HG.out⟩
                  · have hb : (((c.toNat : Nat) : Int) == 62) = false := by
                      have := byte_eq c 62
                      rw [show ((62 : UInt8).toNat : Int) = 62 from rfl] at this
                      rw [this]; simpa using hc
                    have HC := Lib.hid hc
                    clear hc
                    go_wp2_with fail
                    refine (is_some D s _ _ 62 _ _ _ HD.out HR.out).mono ?_
                    rw [hb]
                    rintro e wz ⟨rfl, m, hw⟩
                    replace HG := Lib.hid (gb_trans HG.out (gb_of_drewN (D := D) hw))
                    have HD := Lib.hid (HD.out.of_drewN hw)
                    clear hw hb
                    replace KEY := Lib.hid (KEY.out.trans (if_neg (eb_no c r2 HC.out)))
                    generalize c :: r2 = R1 at *
                    replace HG : Hid (w.grownBy (World.drew _) (some D)) := gb_drewN HG.out 1
                    go_wp2_with fail
                    go_region_with (go_at_call 38; refine (quotedS_calls D s _ _ (World.drew _) _ hs HD.out HR.out (HS.out.gb HG.out hDg) hDg).mono ?_; intro e wz hres; obtain ⟨n, rfl, hp, hd, hg⟩ := hres)
                    replace HR := Lib.hid hp
                    replace HG := Lib.hid (gb_trans HG.out hg)
                    replace HD := Lib.hid hd
                    clear hp hd hg
                    replace KEY := Lib.hid (KEY.out.trans (dtS_qd _ R1))
                    generalize qdS _ R1 = x at *
                    obtain ⟨T, R1, fo, sh⟩ := x
                    dsimp only at KEY HR HD
                    cases fo with
                    | false =>
                      go_wp2_with fail
                      refine (broken_out D s _ _ _ _ (by omega) HD.out HR.out).mono ?_
                      intro e wz hres
                      obtain ⟨n, rfl, hp, hd, hg⟩ := hres
                      replace HR := Lib.hid hp
                      replace HG := Lib.hid (gb_trans HG.out hg)
                      replace HD := Lib.hid hd
                      clear hp hd hg
                      go_wp2
                      go_ret
                      rw [KEY.out]
                      exact ⟨n, rfl, HR.out, HD.out, HG.out⟩
                    | true =>
                      cases sh with
                      | false =>
                        go_wp2_with fail
                        refine (broken_in D s _ _ _ _ (by omega) HD.out HR.out).mono ?_
                        intro e wz hres
                        obtain ⟨n, rfl, hp, hd, hg⟩ := hres
                        replace HR := Lib.hid hp
                        replace HG := Lib.hid (gb_trans HG.out hg)
                        replace HD := Lib.hid hd
                        clear hp hd hg
                        go_wp2
                        go_ret
                        rw [KEY.out]
                        exact ⟨n, rfl, HR.out, HD.out, HG.out⟩
                      | true =>
                        replace KEY : Hid (dt r = match db R1 with | [] => clo true T [] | d :: r3 => rst T (d :: r3)) := KEY.out
                        go_wp2_with fail
                        refine (blanks_calls D s _ _ _ _ (by omega) HD.out HR.out).mono ?_
                        rintro e wz ⟨n, rfl, hp, hd, hg⟩
                        replace HR := Lib.hid hp
                        replace HG := Lib.hid (gb_trans HG.out hg)
                        replace HD := Lib.hid hd
                        clear hp hd hg
                        generalize db R1 = R1 at *
                        cases R1 with
                        | nil =>
                          go_wp2_with fail
                          refine (ended_yes D s _ _ _ HD.out HR.out).mono ?_
                          rintro e wz ⟨rfl, m, hw⟩
                          replace HG := Lib.hid (gb_trans HG.out (gb_of_drewN (D := D) hw))
                          have HD := Lib.hid (HD.out.of_drewN hw)
                          clear hw
                          go_wp2_with fail
                          refine (close_calls D s _ _ _ true _ (by omega) HD.out HR.out).mono ?_
                          intro e wz hres
                          obtain ⟨n, rfl, hp, hd, hg⟩ := hres
                          replace HR := Lib.hid hp
                          replace HG := Lib.hid (gb_trans HG.out hg)
                          replace HD := Lib.hid hd
                          clear hp hd hg
                          go_wp2
                          go_ret
                          rw [KEY.out]
                          exact ⟨n, rfl, HR.out, HD.out, HG.out⟩
                        | cons d r3 =>
                          go_wp2_with fail
                          refine (ended_no D s _ _ _ HD.out (HR.out.cons).1).mono ?_
                          rintro e wz ⟨rfl, m, hw⟩
                          replace HG := Lib.hid (gb_trans HG.out (gb_of_drewN (D := D) hw))
                          have HD := Lib.hid (HD.out.of_drewN hw)
                          clear hw
                          go_wp2_with fail
                          refine (rest_calls D s _ _ _ _ (by omega) HD.out HR.out).mono ?_
                          intro e wz hres
                          obtain ⟨n, rfl, hp, hd, hg⟩ := hres
                          replace HR := Lib.hid hp
                          replace HG := Lib.hid (gb_trans HG.out hg)
                          replace HD := Lib.hid hd
                          clear hp hd hg
                          go_wp2
                          go_ret
                          rw [KEY.out]
                          exact ⟨n, rfl, HR.out, HD.out, HG.out⟩
          | false =>
            replace KEY := Lib.hid (KEY.out.trans (if_neg (by rw [hw]; decide)))
            have HW := Lib.hid hw
            clear hw
            go_wp2_with fail
            refine (word_no D s ⟨#[112, 117, 98, 108, 105, 99]⟩ _ _ _ _ (by omega) (by decide) HD.out HR.out HW.out).mono ?_
            intro e wz hres
            obtain ⟨n, rfl, hp, hd, hg⟩ := hres
            replace HR := Lib.hid hp
            replace HG := Lib.hid (gb_trans HG.out hg)
            replace HD := Lib.hid hd
            clear hp hd hg
            cases hw : wd wSys R1 with
            | true =>
              replace KEY := Lib.hid (KEY.out.trans (if_pos hw))
              have HW := Lib.hid hw
              clear hw
              go_wp2_with fail
              refine (word_yes D s ⟨#[115, 121, 115, 116, 101, 109]⟩ _ _ _ _ 6 rfl (by omega) (by decide) HD.out HR.out HW.out).mono ?_
              intro e wz hres
              obtain ⟨n, rfl, hp, hd, hg⟩ := hres
              replace HR := Lib.hid hp
              replace HG := Lib.hid (gb_trans HG.out hg)
              replace HD := Lib.hid hd
              clear hp hd hg
              go_wp2_with fail
              refine (blanks_calls D s _ _ _ _ (by omega) HD.out HR.out).mono ?_
              rintro e wz ⟨n, rfl, hp, hd, hg⟩
              replace HR := Lib.hid hp
              replace HG := Lib.hid (gb_trans HG.out hg)
              replace HD := Lib.hid hd
              clear hp hd hg
              generalize db (R1.drop 6) = R1 at *
              replace HG : Hid (w.grownBy (World.drew _) (some D)) := gb_drewN HG.out 1
              go_wp2_with fail
              go_region_with (go_at_call 38; refine (quotedS_calls D s _ _ (World.drew _) _ hs HD.out HR.out (HS.out.gb HG.out hDg) hDg).mono ?_; intro e wz hres; obtain ⟨n, rfl, hp, hd, hg⟩ := hres)
              replace HR := Lib.hid hp
              replace HG := Lib.hid (gb_trans HG.out hg)
              replace HD := Lib.hid hd
              clear hp hd hg
              replace KEY := Lib.hid (KEY.out.trans (dtS_qd _ R1))
              generalize qdS _ R1 = x at *
              obtain ⟨T, R1, fo, sh⟩ := x
              dsimp only at KEY HR HD
              cases fo with
              | false =>
                go_wp2_with fail
                refine (broken_out D s _ _ _ _ (by omega) HD.out HR.out).mono ?_
                intro e wz hres
                obtain ⟨n, rfl, hp, hd, hg⟩ := hres
                replace HR := Lib.hid hp
                replace HG := Lib.hid (gb_trans HG.out hg)
                replace HD := Lib.hid hd
                clear hp hd hg
                go_wp2
                go_ret
                rw [KEY.out]
                exact ⟨n, rfl, HR.out, HD.out, HG.out⟩
              | true =>
                cases sh with
                | false =>
                  go_wp2_with fail
                  refine (broken_in D s _ _ _ _ (by omega) HD.out HR.out).mono ?_
                  intro e wz hres
                  obtain ⟨n, rfl, hp, hd, hg⟩ := hres
                  replace HR := Lib.hid hp
                  replace HG := Lib.hid (gb_trans HG.out hg)
                  replace HD := Lib.hid hd
                  clear hp hd hg
                  go_wp2
                  go_ret
                  rw [KEY.out]
                  exact ⟨n, rfl, HR.out, HD.out, HG.out⟩
                | true =>
                  replace KEY : Hid (dt r = match db R1 with | [] => clo true T [] | d :: r3 => rst T (d :: r3)) := KEY.out
                  go_wp2_with fail
                  refine (blanks_calls D s _ _ _ _ (by omega) HD.out HR.out).mono ?_
                  rintro e wz ⟨n, rfl, hp, hd, hg⟩
                  replace HR := Lib.hid hp
                  replace HG := Lib.hid (gb_trans HG.out hg)
                  replace HD := Lib.hid hd
                  clear hp hd hg
                  generalize db R1 = R1 at *
                  cases R1 with
                  | nil =>
                    go_wp2_with fail
                    refine (ended_yes D s _ _ _ HD.out HR.out).mono ?_
                    rintro e wz ⟨rfl, m, hw⟩
                    replace HG := Lib.hid (gb_trans HG.out (gb_of_drewN (D := D) hw))
                    have HD := Lib.hid (HD.out.of_drewN hw)
                    clear hw
                    go_wp2_with fail
                    refine (close_calls D s _ _ _ true _ (by omega) HD.out HR.out).mono ?_
                    intro e wz hres
                    obtain ⟨n, rfl, hp, hd, hg⟩ := hres
                    replace HR := Lib.hid hp
                    replace HG := Lib.hid (gb_trans HG.out hg)
                    replace HD := Lib.hid hd
                    clear hp hd hg
                    go_wp2
                    go_ret
                    rw [KEY.out]
                    exact ⟨n, rfl, HR.out, HD.out, HG.out⟩
                  | cons d r3 =>
                    go_wp2_with fail
                    refine (ended_no D s _ _ _ HD.out (HR.out.cons).1).mono ?_
                    rintro e wz ⟨rfl, m, hw⟩
                    replace HG := Lib.hid (gb_trans HG.out (gb_of_drewN (D := D) hw))
                    have HD := Lib.hid (HD.out.of_drewN hw)
                    clear hw
                    go_wp2_with fail
                    refine (rest_calls D s _ _ _ _ (by omega) HD.out HR.out).mono ?_
                    intro e wz hres
                    obtain ⟨n, rfl, hp, hd, hg⟩ := hres
                    replace HR := Lib.hid hp
                    replace HG := Lib.hid (gb_trans HG.out hg)
                    replace HD := Lib.hid hd
                    clear hp hd hg
                    go_wp2
                    go_ret
                    rw [KEY.out]
                    exact ⟨n, rfl, HR.out, HD.out, HG.out⟩
            | false =>
              replace KEY := Lib.hid (KEY.out.trans (if_neg (by rw [hw]; decide)))
              have HW := Lib.hid hw
              clear hw
              go_wp2_with fail
              refine (word_no D s ⟨#[115, 121, 115, 116, 101, 109]⟩ _ _ _ _ (by omega) (by decide) HD.out HR.out HW.out).mono ?_
              intro e wz hres
              obtain ⟨n, rfl, hp, hd, hg⟩ := hres
              replace HR := Lib.hid hp
              replace HG := Lib.hid (gb_trans HG.out hg)
              replace HD := Lib.hid hd
              clear hp hd hg
              go_wp2_with fail
              refine (broken_out D s _ _ _ _ (by omega) HD.out HR.out).mono ?_
              intro e wz hres
              obtain ⟨n, rfl, hp, hd, hg⟩ := hres
              replace HR := Lib.hid hp
              replace HG := Lib.hid (gb_trans HG.out hg)
              replace HD := Lib.hid hd
              clear hp hd hg
              go_wp2
              go_ret
              rw [KEY.out]
              exact ⟨n, rfl, HR.out, HD.out, HG.out⟩
end Go.Proofs.YtileclmmobkcaaaDoor
