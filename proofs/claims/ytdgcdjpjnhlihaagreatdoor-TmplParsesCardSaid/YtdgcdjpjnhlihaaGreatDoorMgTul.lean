/-
  The loop of lacunaref19.Parse. The condition: the source takes at most 16384 bytes.
-/
/-
  What comes behind the loop of lacunaref19.Parse. The condition: the source takes at most 16384 bytes.
-/
/-
  The contract of lacunaref19.Parse. The condition: the source takes at most 16384 bytes.
-/
import Derived.Test.YtdgcdjpjnhlihaaGreatDoorMgTuh
set_option linter.unusedVariables false
set_option linter.unusedSimpArgs false
namespace Go.Proofs.YtdgcdjpjnhlihaaGreatDoor
open Go.RowKit Go.Shelf Go.Lib
attribute [local go_sem ↓] Go.wp_at_zero Go.wp_at_succ

theorem tx_head (p : Nat) (a : By) (X : ByteArray) (h : bl X = a) : (⟨1, (p : Nat), X, false, [], ⟨#[]⟩⟩ : Hd) = hdText p a := by
  unfold hdText
  rw [← h, mkB_bl]; rfl
set_option maxRecDepth 100000 in
set_option maxHeartbeats 16000000 in
theorem par_a (s : ByteArray) (hs : s.size ≤ 16384) (w : World) : ∀ u, (parCap s hs w).1 u := by
  unfold parCap
  intro u W0 hB0 hR0 hZ0 hl0 w9 u3 u4 u6 u7 u8 u21 u22 u23 u24 u25 u26 u27 u28 u29 u30 u31 u32 u33 u34 u35 u36 u37 u38 k hk hsz hlt' W1 bx HN HBW R HPR HLP K0 h0 J0 J1 hJ0 hJ1
  clear hB0 hR0 hl0 HPR
  go_wp2_with fail
  go_loopw [10, 11, 12, 13] (fun v10 v11 v12 v13 wx => ∃ (p : Nat) (s1 : St) (E1 : Nat × Nat), v10 = .int .i64 (p : Nat) ∧ p ≤ s.size ∧ Hid (RdN W0.heap.size (5 * p) bx s s1 E1 wx) ∧ Hid (LpI (bl s) R p s1 E1) ∧ Hid (Below W0.heap.size W0 wx)) (fun i _ _ _ _ => s.size + 4 - (intOf i).toNat)
  case atStart => exact ⟨0, St.start, (0, 0), rfl, Nat.zero_le _, HN, HLP, HBW⟩
  case round =>
    obtain ⟨p, s1, E1, rfl, hp, HG, HI, HB⟩ := hrel
    obtain ⟨col0, sv0, dv0, cv0, hg0⟩ := HG.out
    have e6 : wr.cell? ⟨bx, 6, none⟩ = some (.int .i64 (E1.1 : Nat)) := hg0.cells.2.2.2.2.2.2.1
    clear hg0 HN HLP HBW
    have hbs : (bl s).length = s.size := rfl
    by_cases hlt : p < s.size
    · have hltI : (p : Int) < (s.size : Int) := by omega
      by_cases hE : E1.1 = 0
      · have hE2 : E1 = (0, 0) := by rcases HI.out with ⟨h, -⟩ | ⟨h, -⟩; exact h; exact absurd hE h
        subst hE2
        replace e6 : wr.cell? ⟨bx, 6, none⟩ = some (.int .i64 0) := e6
        clear hE
        have FB := Lib.hid (fun w => findB_calls s p (by omega) hp w)
        cases hc : cut2 123 ((bl s).drop p) with
        | none =>
          have hf : findI 123 (bl s) p = -1 := cut_no hc
          rw [hf] at FB
          have HL := Lib.hid (lp_none HI.out (by rw [hbs]; exact hlt) hc)
          have hne : (bl s).drop p ≠ [] := by intro e; have := congrArg List.length e; simp at this; omega
          unfold txS txE at HL
          rw [if_neg hne, if_neg hne, ← tx_head p _ (s.extract p s.size) (by rw [ext_bl s p s.size (Nat.le_refl _), List.take_of_length_le (by rw [List.length_drop]; omega)])] at HL
          clear hf hc hne HI
          obtain ⟨col1, sv1, dv1, cv1, hg1⟩ := HG.out
          have CC := Lib.hid (countM_calls W0.heap.size (5 * p) bx p (by omega) s s1 (0, 0) _ _ _ _ _ hg1)
          clear hg1
          go_wp2_with (go_at_call 42; refine (FB.out _).mono ?_; rintro e wn ⟨rfl, rfl⟩)
          refine CC.out.mono ?_
          rintro e w4 ⟨rfl, hb4, hs4, hg4⟩
          have HB4 := Lib.hid (HB.out.trans hb4)
          have AD : Hid (Calls Tryz.prog 44 #[.pointer (some ⟨bx, 0, none⟩), .agg #[.int .u8 1, .int .i64 (p : Nat), .string (s.extract p s.size), .bool false, .slice none 0 0, .string ⟨#[]⟩, .slice none 0 0, .slice none 0 0]] w4 _) :=
            addM_calls W0.heap.size (5 * p + 1) bx (by omega) s { s1 with many := s1.many + 1 } (cntE s1.many (0, 0) p) ⟨1, (p : Nat), s.extract p s.size, false, [], ⟨#[]⟩⟩ .nil .nil _ _ _ _ (.slice none 0 0) (.slice none 0 0) (.slice none 0 0) w4 hg4 (Strs.nil _ _) (Parts.nil _ _) (Parts.nil _ _)
          clear hb4 hs4 hg4 CC
          go_wp2_with (go_at_call 44; refine AD.out.mono ?_; rintro e w5 ⟨rfl, hb5, hr5⟩; have HB5 := Lib.hid (HB4.out.trans hb5); have HR5 := Lib.hid hr5; clear hb5 hr5)
          go_meet
          exact ⟨_, _, RdN.more (by omega) HR5.out, HL.out, HB5.out⟩
        | some q =>
          obtain ⟨a, r⟩ := q
          obtain ⟨i1, hr2, i3, hf⟩ := cut_at (x := bl s) (k := p) (by rw [hbs]; omega) hc
          obtain ⟨o, ho⟩ : ∃ o, p + a.length = o := ⟨_, rfl⟩
          rw [hf, ho] at FB
          rw [ho] at hr2 i1
          rw [hbs] at i1
          obtain ⟨HLe, HLo⟩ := lp_some HI.out (by rw [hbs]; exact hlt) hc
          rw [ho] at HLo
          have l0 : ¬ (o : Int) < 0 := by omega
          have l1 : (p : Int) ≤ (o : Int) := by omega
          have l2 : (o : Int) ≤ (s.size : Int) := by omega
          by_cases ha : a = []
          · have hop : o = p := by rw [← ho, ha]; rfl
            subst ha
            obtain ⟨-, hK2, hR2⟩ := HLo rfl
            have HR2 := Lib.hid hR2
            have HK2 := Lib.hid hK2
            have HG2 : Hid (RdN W0.heap.size (5 * p + 2) bx s s1 (0, 0) wr) := RdN.more (by omega) HG.out
            have HB2 := HB
            subst hop
            have l3 : ¬ (o : Int) < (o : Int) := by omega
            have htx : txS o [] s1 = s1 := if_pos rfl
            rw [htx] at HR2 HK2
            clear HLe HLo hK2 hR2 hf hc i3 HI HG ho htx
            go_upto_region 20 with (go_at_call 42; refine (FB.out _).mono ?_; rintro e wn ⟨rfl, rfl⟩)
            clear FB
            have FK := Lib.hid (fun w => findK_calls s (o + 2) (by omega) (by omega) w)
            obtain ⟨col5, sv5, dv5, cv5, hg5⟩ := HG2.out
            have e5 : wr.cell? ⟨bx, 6, none⟩ = some (.int .i64 0) := hg5.cells.2.2.2.2.2.2.1
            have eo2 : ((o + 2 : Nat) : Int) = (o : Int) + 2 := by omega
            rw [eo2] at FK
            cases hc2 : cut2 125 r with
            | none =>
              have hf : findI 125 (bl s) (o + 2) = -1 := cut_no (by rw [← hr2]; exact hc2)
              rw [hf] at FK
              have HL := Lib.hid (lp_open HR2.out hc2)
              have FC := Lib.hid (failR_calls W0.heap.size (5 * o + 2) bx 191 o s s1 (0, 0) _ _ _ _ _ hg5)
              clear hf hc2 HR2 hg5 HG2
              go_wp2_with (go_at_call 42; refine (FK.out _).mono ?_; rintro e wn ⟨rfl, rfl⟩)
              refine FC.out.mono ?_
              rintro e w4 ⟨rfl, hb4, hs4, hg4⟩
              have HB4 := Lib.hid (HB2.out.trans hb4)
              have HG4 := Lib.hid hg4
              clear hb4 hs4 hg4 FC
              go_wp2_with fail
              go_meet
              exact ⟨s1, (191, o), RdN.more (by omega) ⟨_, _, _, _, HG4.out⟩, HL.out, HB4.out⟩
            | some q =>
              obtain ⟨i, r2⟩ := q
              obtain ⟨j1, j2, j3, hf⟩ := cut_at (x := bl s) (k := o + 2) (by show o + 2 ≤ s.size; omega) (by rw [← hr2]; exact hc2)
              have j1' : o + 2 + i.length + 2 ≤ s.size := j1
              obtain ⟨sh, hsh⟩ : ∃ sh, o + 2 + i.length = sh := ⟨_, rfl⟩
              rw [hf, hsh] at FK
              have hx : bl (s.extract (o + 2) sh) = i := by rw [ext_bl s (o + 2) sh (by omega), show sh - (o + 2) = i.length by omega]; exact j3
              have hxs : (s.extract (o + 2) sh).size ≤ 16777216 := by rw [ByteArray.size_extract]; omega
              have AC := Lib.hid (actM_calls W0.heap.size (5 * o + 2) bx (by omega) (s.extract (o + 2) sh) hxs o s s1 wr HG2.out HK2.out)
              rw [hx] at AC
              have HLA := Lib.hid (fun (s3 : St) (E3 : Nat × Nat) (hl : Lt (action i o s1) s3 E3) => lp_act HR2.out hc2 HK2.out (by rw [j2]; congr 1; omega) hl)
              have l1 : (0 : Int) ≤ (sh : Int) := by omega
              have l2 : (o : Int) + 2 ≤ (sh : Int) := by omega
              have l3 : (sh : Int) ≤ (s.size : Int) := by omega
              have l4 : ¬ (sh : Int) < 0 := by omega
              have hpl : o + i.length + 4 = sh + 2 := by omega
              rw [hpl] at HLA
              clear hf hc2 HR2 hg5 HG2 hx hxs j2 j3 HK2
              go_wp2_with (first | (go_at_call 42; refine (FK.out _).mono ?_; rintro e wn ⟨rfl, rfl⟩) | (go_at_call 46; refine AC.out.mono ?_; rintro e w6 ⟨rfl, hb6, s3, E3, hr6, hl6⟩; have HB6 := Lib.hid (HB2.out.trans hb6); have HL6 := Lib.hid (HLA.out s3 E3 hl6); have HR6 := Lib.hid hr6; clear hb6 hr6 hl6))
              exact ⟨⟨sh + 2, s3, E3, by go_num, by omega, RdN.more (by omega) HR6.out, HL6, HB6⟩, by simp [intOf]; omega⟩
          · have hal : 0 < a.length := List.length_pos_iff.2 ha
            have l3 : (p : Int) < (o : Int) := by omega
            unfold txS txE at HLe HLo
            rw [if_neg ha, if_neg ha, ← tx_head p a (s.extract p o) (by rw [ext_bl s p o (by omega), show o - p = a.length by omega]; exact i3)] at HLe
            rw [if_neg ha, if_neg ha, ← tx_head p a (s.extract p o) (by rw [ext_bl s p o (by omega), show o - p = a.length by omega]; exact i3)] at HLo
            have HLE := Lib.hid HLe
            have HLO := Lib.hid HLo
            clear HLe HLo hf hc i3 HI ha
            obtain ⟨col1, sv1, dv1, cv1, hg1⟩ := HG.out
            have CC := Lib.hid (countM_calls W0.heap.size (5 * p) bx p (by omega) s s1 (0, 0) _ _ _ _ _ hg1)
            clear hg1
            go_wp2_with (go_at_call 42; refine (FB.out _).mono ?_; rintro e wn ⟨rfl, rfl⟩)
            refine CC.out.mono ?_
            rintro e w4 ⟨rfl, hb4, hs4, hg4⟩
            have HB4 := Lib.hid (HB.out.trans hb4)
            have AD : Hid (Calls Tryz.prog 44 #[.pointer (some ⟨bx, 0, none⟩), .agg #[.int .u8 1, .int .i64 (p : Nat), .string (s.extract p o), .bool false, .slice none 0 0, .string ⟨#[]⟩, .slice none 0 0, .slice none 0 0]] w4 _) :=
              addM_calls W0.heap.size (5 * p + 1) bx (by omega) s { s1 with many := s1.many + 1 } (cntE s1.many (0, 0) p) ⟨1, (p : Nat), s.extract p o, false, [], ⟨#[]⟩⟩ .nil .nil _ _ _ _ (.slice none 0 0) (.slice none 0 0) (.slice none 0 0) w4 hg4 (Strs.nil _ _) (Parts.nil _ _) (Parts.nil _ _)
            clear hb4 hs4 hg4 CC
            by_cases hm : 1024 < s1.many + 1
            · have hE4 : Hid (cntE s1.many (0, 0) p = (196, p)) := if_pos hm
              rw [hE4.out] at HLE AD
              clear hE4 hm HLO
              go_upto_region 20 with (go_at_call 44; refine AD.out.mono ?_; rintro e w5 ⟨rfl, hb5, hr5⟩; have HB5 := Lib.hid (HB4.out.trans hb5); obtain ⟨col6, sv6, dv6, cv6, hg6⟩ := hr5; have e7 : w5.cell? ⟨bx, 6, none⟩ = some (.int .i64 196) := hg6.cells.2.2.2.2.2.2.1; have HG6 := Lib.hid hg6; clear hb5 hg6)
              have HL := Lib.hid (HLE.out (by decide))
              go_wp2_with fail
              go_meet
              exact ⟨_, _, RdN.more (by omega) ⟨_, _, _, _, HG6.out⟩, HL.out, HB5.out⟩
            · have hE4 : Hid (cntE s1.many (0, 0) p = (0, 0)) := if_neg hm
              rw [hE4.out] at HLO AD
              obtain ⟨-, hK2, hR2⟩ := HLO.out rfl
              have HR2 := Lib.hid hR2
              have HK2 := Lib.hid hK2
              clear hE4 hm HLE HLO hK2 hR2
              go_upto_region 20 with (go_at_call 44; refine AD.out.mono ?_; rintro e wy ⟨rfl, hb5, hr5⟩; have HB2 := Lib.hid (HB4.out.trans hb5); have HG2 := Lib.hid hr5; clear hb5 hr5)
              have HG2 : Hid (RdN W0.heap.size (5 * p + 2) bx s _ (0, 0) wy) := HG2
              generalize hs2 : St.put _ _ _ _ = s2 at HR2 HK2 HG2
              clear hs2 HG HB HB4 AD e6
              have FK := Lib.hid (fun w => findK_calls s (o + 2) (by omega) (by omega) w)
              obtain ⟨col5, sv5, dv5, cv5, hg5⟩ := HG2.out
              have e5 : wy.cell? ⟨bx, 6, none⟩ = some (.int .i64 0) := hg5.cells.2.2.2.2.2.2.1
              have eo2 : ((o + 2 : Nat) : Int) = (o : Int) + 2 := by omega
              rw [eo2] at FK
              cases hc2 : cut2 125 r with
              | none =>
                have hf : findI 125 (bl s) (o + 2) = -1 := cut_no (by rw [← hr2]; exact hc2)
                rw [hf] at FK
                have HL := Lib.hid (lp_open HR2.out hc2)
                have FC := Lib.hid (failR_calls W0.heap.size (5 * p + 2) bx 191 o s s2 (0, 0) _ _ _ _ _ hg5)
                clear hf hc2 HR2 hg5 HG2
                go_wp2_with (go_at_call 42; refine (FK.out _).mono ?_; rintro e wn ⟨rfl, rfl⟩)
                refine FC.out.mono ?_
                rintro e w4 ⟨rfl, hb4, hs4, hg4⟩
                have HB4 := Lib.hid (HB2.out.trans hb4)
                have HG4 := Lib.hid hg4
                clear hb4 hs4 hg4 FC
                go_wp2_with fail
                go_meet
                exact ⟨s2, (191, o), RdN.more (by omega) ⟨_, _, _, _, HG4.out⟩, HL.out, HB4.out⟩
              | some q =>
                obtain ⟨i, r2⟩ := q
                obtain ⟨j1, j2, j3, hf⟩ := cut_at (x := bl s) (k := o + 2) (by show o + 2 ≤ s.size; omega) (by rw [← hr2]; exact hc2)
                have j1' : o + 2 + i.length + 2 ≤ s.size := j1
                obtain ⟨sh, hsh⟩ : ∃ sh, o + 2 + i.length = sh := ⟨_, rfl⟩
                rw [hf, hsh] at FK
                have hx : bl (s.extract (o + 2) sh) = i := by rw [ext_bl s (o + 2) sh (by omega), show sh - (o + 2) = i.length by omega]; exact j3
                have hxs : (s.extract (o + 2) sh).size ≤ 16777216 := by rw [ByteArray.size_extract]; omega
                have AC := Lib.hid (actM_calls W0.heap.size (5 * p + 2) bx (by omega) (s.extract (o + 2) sh) hxs o s s2 wy HG2.out HK2.out)
                rw [hx] at AC
                have HLA := Lib.hid (fun (s3 : St) (E3 : Nat × Nat) (hl : Lt (action i o s2) s3 E3) => lp_act HR2.out hc2 HK2.out (by rw [j2]; congr 1; omega) hl)
                have l1 : (0 : Int) ≤ (sh : Int) := by omega
                have l2 : (o : Int) + 2 ≤ (sh : Int) := by omega
                have l3 : (sh : Int) ≤ (s.size : Int) := by omega
                have l4 : ¬ (sh : Int) < 0 := by omega
                have hpl : o + i.length + 4 = sh + 2 := by omega
                rw [hpl] at HLA
                clear hf hc2 HR2 hg5 HG2 hx hxs j2 j3 HK2
                go_wp2_with (first | (go_at_call 42; refine (FK.out _).mono ?_; rintro e wn ⟨rfl, rfl⟩) | (go_at_call 46; refine AC.out.mono ?_; rintro e w6 ⟨rfl, hb6, s3, E3, hr6, hl6⟩; have HB6 := Lib.hid (HB2.out.trans hb6); have HL6 := Lib.hid (HLA.out s3 E3 hl6); have HR6 := Lib.hid hr6; clear hb6 hr6 hl6))
                exact ⟨⟨sh + 2, s3, E3, by go_num, by omega, RdN.more (by omega) HR6.out, HL6, HB6⟩, by simp [intOf]; omega⟩
      · have hEI : ((E1.1 : Int) == 0) = false := beq_eq_false_iff_ne.2 (by omega)
        have HL := Lib.hid (lp_err HI.out hE)
        clear hE HI
        go_wp2_with fail
        go_meet
        exact ⟨s1, E1, RdN.more (by omega) HG.out, HL.out, HB.out⟩
    · have hltI : ¬ (p : Int) < (s.size : Int) := by omega
      have HL : Hid (Lt R s1 E1) := by
        by_cases hE : E1.1 = 0
        · have hE2 : E1 = (0, 0) := by rcases HI.out with ⟨h, -⟩ | ⟨h, -⟩; exact h; exact absurd hE h
          subst hE2
          exact lp_end HI.out (by rw [hbs]; omega)
        · exact lp_err HI.out hE
      clear HI
      go_wp2_with fail
      go_meet
      exact ⟨s1, E1, RdN.more (by omega) HG.out, HL.out, HB.out⟩
end Go.Proofs.YtdgcdjpjnhlihaaGreatDoor
set_option linter.unusedVariables false
set_option linter.unusedSimpArgs false
namespace Go.Proofs.YtdgcdjpjnhlihaaGreatDoor
open Go.RowKit Go.Shelf Go.Lib
attribute [local go_sem ↓] Go.wp_at_zero Go.wp_at_succ

set_option maxRecDepth 100000 in
set_option maxHeartbeats 16000000 in
theorem par_b (s : ByteArray) (hs : s.size ≤ 16384) (w : World) : ∀ u, (parCap s hs w).2.1 u := by
  unfold parCap
  intro u W0 hB0 hR0 hZ0 hl0 w9 u3 u4 u6 u7 u8 u21 u22 u23 u24 u25 u26 u27 u28 u29 u30 u31 u32 u33 u34 u35 u36 u37 u38 k hk hsz hlt' bx R HPR K0 h0 wc u10 u11 u12 u13 u44 u45 u46 u47 u48 u49 u50 u51 u52 u53 u54 u55 u56 u57 u58 u59 u60 u61 u62 u63 u64 u65 u66 u67 u68 u69 u70 u71 u72 u73 u74 u75 u76 u77 u78 u79 u80 u81 u82 u83 u84 u85 u86 u87 u88 u89 u90 u91 u92 u93 u94 u95 u96 u97 u98 u99 u100 u101 u102 u103 u104 u105 hcut
  obtain ⟨s2, E2, ⟨col, sv, dv, cv, hg⟩, hlt2, hbw⟩ := hcut.out
  have HLT := Lib.hid hlt2
  obtain ⟨g, c, cs, vn, vk, kv, hsv, hc1, hc2, -⟩ := hg.top
  subst hsv
  have k1 : wc.cell? ⟨bx, 1, none⟩ = some (.slice (some ⟨g, 0, none⟩) (s2.rest.length + 1) c) := hg.cells.2.1
  obtain ⟨E3, hE3⟩ : ∃ E, stE s2 s.size E2 = E := ⟨_, rfl⟩
  have HE3 := Lib.hid hE3.symm
  clear hcut hlt2
  by_cases hr0 : s2.rest = []
  · have hn1 : ¬ (1 : Int) < ((s2.rest.length + 1 : Nat) : Int) := by rw [hr0]; decide
    have hn2 : ¬ (1 : Int) < (s2.rest.length : Int) + 1 := by rw [hr0]; decide
    have hn3 : ¬ 0 < s2.rest.length := by rw [hr0]; decide
    have HG3 : Hid (RdR W0.heap.size 100000 bx s s2 E3 col (.slice (some ⟨g, 0, none⟩) (s2.rest.length + 1) c) dv cv wc) := by unfold Hid; rw [← hE3]; unfold stE; rw [if_pos hr0]; exact hg
    have HB3 := Lib.hid hbw
    clear hg hbw hE3 hr0
    have l3 : s2.defs.length ≤ 100000 := HG3.out.l3
    have l4 : s2.calls.length ≤ 100000 := HG3.out.l4
    obtain ⟨da, dc, rfl⟩ : ∃ a k, dv = .slice a s2.defs.length k := by obtain ⟨cs, h, -⟩ := HG3.out.df; exact h.slice
    obtain ⟨ca, cc, rfl⟩ : ∃ a k, cv = .slice a s2.calls.length k := by obtain ⟨cs, h, -⟩ := HG3.out.cl; exact h.slice
    go_wp2_with fail
    go_loopw [14, 15, 16] (fun v14 v15 v16 wr => ∃ i : Nat, v14 = .int .i64 (i : Nat) ∧ i ≤ s2.calls.length ∧ Hid (RdR W0.heap.size 100000 bx s s2 (nnE s2.defs E3 (s2.calls.take i)) col (.slice (some ⟨g, 0, none⟩) (s2.rest.length + 1) c) (.slice da s2.defs.length dc) (.slice ca s2.calls.length cc) wr) ∧ Hid (Below W0.heap.size W0 wr)) (fun v _ _ _ => s2.calls.length - (intOf v).toNat)
    case atStart => exact ⟨0, rfl, Nat.zero_le _, HG3, HB3⟩
    case round =>
      obtain ⟨i, rfl, hi, HG, HB⟩ := hrel
      clear HG3 HB3
      have k5 : wr.cell? ⟨bx, 5, none⟩ = some (.slice ca s2.calls.length cc) := HG.out.cells.2.2.2.2.2.1
      by_cases hlt : i < s2.calls.length
      · have hltI : (i : Int) < (s2.calls.length : Int) := by omega
        have hi0 : (0 : Int) ≤ (i : Int) := by omega
        obtain ⟨cl, hcl⟩ : ∃ c, s2.calls[i]? = some c := ⟨_, List.getElem?_eq_getElem hlt⟩
        have HNN := Lib.hid (nn_step s2.defs E3 s2.calls i cl hcl)
        obtain ⟨X, hX⟩ : ∃ X, mkB cl.1 = X := ⟨_, rfl⟩
        have bX : bl X = cl.1 := by rw [← hX]; exact bl_mkB _
        have hcc : ∃ g4, ca = some ⟨g4, 0, none⟩ ∧ ∀ wq : World, RdR W0.heap.size 100000 bx s s2 (nnE s2.defs E3 (s2.calls.take i)) col (.slice (some ⟨g, 0, none⟩) (s2.rest.length + 1) c) (.slice da s2.defs.length dc) (.slice ca s2.calls.length cc) wq → wq.cell? ⟨g4, i * 8 + 5, none⟩ = some (.string X) ∧ wq.cell? ⟨g4, i * 8 + 1, none⟩ = some (.int .i64 (cl.2 : Nat)) := by
          have get : ∀ wq : World, RdR W0.heap.size 100000 bx s s2 (nnE s2.defs E3 (s2.calls.take i)) col (.slice (some ⟨g, 0, none⟩) (s2.rest.length + 1) c) (.slice da s2.defs.length dc) (.slice ca s2.calls.length cc) wq → ∃ g4, ca = some ⟨g4, 0, none⟩ ∧ wq.cell? ⟨g4, i * 8 + 5, none⟩ = some (.string X) ∧ wq.cell? ⟨g4, i * 8 + 1, none⟩ = some (.int .i64 (cl.2 : Nat)) := by
            intro wq hq
            obtain ⟨cs4, ⟨h4, -⟩, hrow4⟩ := hq.cl
            obtain ⟨g4, c4', hv4, -, -, -, -, h5⟩ := ownsRow.elems h4 (by omega)
            injection hv4 with e1
            obtain ⟨root, va, vl, vc, q0, q1, q2, q3, q4, q5, -⟩ := CRowC.at s2.calls cs4 i cl hcl hrow4
            rw [hX] at q5
            exact ⟨g4, e1, h5 _ _ q5, h5 _ _ q1⟩
          obtain ⟨g4, e1, -⟩ := get wr HG.out
          refine ⟨g4, e1, fun wq hq => ?_⟩
          obtain ⟨g5, e2, h6⟩ := get wq hq
          rw [e1] at e2
          injection e2 with e2
          injection e2 with e2
          rw [e2]; exact h6
        obtain ⟨g4, rfl, hcw⟩ := hcc
        have HCW := Lib.hid hcw
        clear hcw hX hcl
        go_wp2_with fail
        go_loopw [15, 16] (fun v15 v16 wr2 => ∃ k : Nat, v15 = .bool (hasDef (s2.defs.take k) cl.1) ∧ v16 = .int .i64 (k : Nat) ∧ k ≤ s2.defs.length ∧ Hid (RdR W0.heap.size 100000 bx s s2 (nnE s2.defs E3 (s2.calls.take i)) col (.slice (some ⟨g, 0, none⟩) (s2.rest.length + 1) c) (.slice da s2.defs.length dc) (.slice (some ⟨g4, 0, none⟩) s2.calls.length cc) wr2) ∧ Hid (Below W0.heap.size W0 wr2)) (fun _ v _ => s2.defs.length - (intOf v).toNat)
        case atStart => exact ⟨0, rfl, rfl, Nat.zero_le _, HG, HB⟩
        case round =>
          obtain ⟨k2, rfl, rfl, hk2, HG2, HB2⟩ := hrel
          clear HG HB k5
          have d3 : wr.cell? ⟨bx, 3, none⟩ = some (.slice da s2.defs.length dc) := HG2.out.cells.2.2.2.1
          have d5 : wr.cell? ⟨bx, 5, none⟩ = some (.slice (some ⟨g4, 0, none⟩) s2.calls.length cc) := HG2.out.cells.2.2.2.2.2.1
          obtain ⟨n5, n1⟩ := HCW.out _ HG2.out
          by_cases hlt2 : k2 < s2.defs.length
          · have hltI2 : (k2 : Int) < (s2.defs.length : Int) := by omega
            have hk0 : (0 : Int) ≤ (k2 : Int) := by omega
            obtain ⟨d, hd⟩ : ∃ d, s2.defs[k2]? = some d := ⟨_, List.getElem?_eq_getElem hlt2⟩
            have HTK := Lib.hid (hasDef_take s2.defs cl.1 k2 d hd)
            have hdc : ∃ g3, da = some ⟨g3, 0, none⟩ ∧ wr.cell? ⟨g3, k2 * 3, none⟩ = some (.string d.name) := by
              obtain ⟨cs3, ⟨h3, -⟩, hrow3⟩ := HG2.out.df
              obtain ⟨g3, c3', hv3, -, -, -, -, h5⟩ := ownsRow.elems h3 (by omega)
              injection hv3 with e1
              refine ⟨g3, e1, ?_⟩
              have hrw := DRowC.drow s2.defs cs3 g3 0 hrow3 (fun j u hj => by rw [Nat.zero_add]; exact h5 j u hj)
              have := (DRow.at s2.defs g3 0 k2 d hd hrw).1
              rwa [Nat.zero_add] at this
            obtain ⟨g3, rfl, dn⟩ := hdc
            have e2 := str_eq2 d.name X
            have e3 := str_eq3 d.name X
            rw [bX] at e2 e3
            clear hd
            cases hT : hasDef (s2.defs.take k2) cl.1 with
            | true =>
              have HT2 : Hid (true = hasDef (s2.defs.take (k2 + 1)) cl.1) := by unfold Hid; rw [HTK.out, hT]; rfl
              clear HTK hT e2 e3 dn
              go_upto_region 35 with (fail)
              go_quiet (fail)
              go_wp2_with fail
              exact ⟨⟨k2 + 1, congrArg Value.bool HT2.out, by go_num, by omega, HG2.out.same ((Sl.drewN wr _).same (fun _ => True) _) (fun _ _ _ => trivial) (Nat.le_refl _), HB2.out.trans ((Sl.drewN wr _).below _)⟩, by simp [intOf]; omega⟩
            | false =>
              have HT2 : Hid (decide (bl d.name = cl.1) = hasDef (s2.defs.take (k2 + 1)) cl.1) := by unfold Hid; rw [HTK.out, hT]; rfl
              clear HTK hT
              generalize decide (bl d.name = cl.1) = eq1 at *
              go_upto_region 35 with (fail)
              go_quiet (fail)
              go_wp2_with fail
              exact ⟨⟨k2 + 1, congrArg Value.bool HT2.out, by go_num, by omega, HG2.out.same ((Sl.drewN wr _).same (fun _ => True) _) (fun _ _ _ => trivial) (Nat.le_refl _), HB2.out.trans ((Sl.drewN wr _).below _)⟩, by simp [intOf]; omega⟩
          · have hltI2 : ¬ (k2 : Int) < (s2.defs.length : Int) := by omega
            have hke : s2.defs.take k2 = s2.defs := List.take_of_length_le (by omega)
            rw [hke]
            clear hke hlt2
            have FC := Lib.hid (failR_calls W0.heap.size 100000 bx 195 cl.2 s s2 _ _ _ _ _ _ HG2.out)
            cases hT : hasDef s2.defs cl.1 with
            | true =>
              have HN2 : Hid (nnE s2.defs E3 (s2.calls.take i) = nnE s2.defs E3 (s2.calls.take (i + 1))) := by unfold Hid; rw [HNN.out, if_pos hT]
              have HG4 : Hid (RdR W0.heap.size 100000 bx s s2 (nnE s2.defs E3 (s2.calls.take (i + 1))) col (.slice (some ⟨g, 0, none⟩) (s2.rest.length + 1) c) (.slice da s2.defs.length dc) (.slice (some ⟨g4, 0, none⟩) s2.calls.length cc) wr) := by unfold Hid; rw [← HN2.out]; exact HG2.out
              clear HNN hT HN2 HG2 FC
              go_wp2_with fail
              exact ⟨⟨i + 1, by go_num, by omega, HG4, HB2⟩, by simp [intOf]; omega⟩
            | false =>
              have HN2 : Hid (lat (nnE s2.defs E3 (s2.calls.take i)) 195 cl.2 = nnE s2.defs E3 (s2.calls.take (i + 1))) := by unfold Hid; rw [HNN.out, if_neg (by rw [hT]; decide)]
              clear HNN hT HG2
              go_wp2_with fail
              refine FC.out.mono ?_
              rintro e w4 ⟨rfl, hb4, hs4, hg4⟩
              have HB4 := Lib.hid (HB2.out.trans hb4)
              have HG4 : Hid (RdR W0.heap.size 100000 bx s s2 (nnE s2.defs E3 (s2.calls.take (i + 1))) col (.slice (some ⟨g, 0, none⟩) (s2.rest.length + 1) c) (.slice da s2.defs.length dc) (.slice (some ⟨g4, 0, none⟩) s2.calls.length cc) w4) := by unfold Hid; rw [← HN2.out]; exact hg4
              clear hb4 hs4 hg4 FC HN2
              go_wp2_with fail
              exact ⟨⟨i + 1, by go_num, by omega, HG4, HB4⟩, by simp [intOf]; omega⟩
      · have hltI : ¬ (i : Int) < (s2.calls.length : Int) := by omega
        have hie : s2.calls.take i = s2.calls := List.take_of_length_le (by omega)
        have HG4 : Hid (RdR W0.heap.size 100000 bx s s2 (nnE s2.defs E3 s2.calls) col (.slice (some ⟨g, 0, none⟩) (s2.rest.length + 1) c) (.slice da s2.defs.length dc) (.slice ca s2.calls.length cc) wr) := by unfold Hid; have := HG.out; rwa [hie] at this
        obtain ⟨E4, hE4⟩ : ∃ E, nnE s2.defs E3 s2.calls = E := ⟨_, rfl⟩
        rw [hE4] at HG4
        obtain ⟨hfe, hfo⟩ := fin_law s.size HLT.out E4 (by rw [← hE4, HE3.out])
        have hRB := (HB.out.block w.heap.size (by omega)).trans hR0.out
        have HRB := Lib.hid hRB
        have HBB := Lib.hid (hB0.out.trans (HB.out.mono (by omega)))
        obtain ⟨c0, c1, c2, c3, c4, c5, c6, c7, fz⟩ := HG4.out.cells
        have r0 : wr.cell? ⟨w.heap.size, 0, none⟩ = some (.slice none 0 0) := by rw [cell_of_heap' hRB]; rfl
        have r1 : wr.cell? ⟨w.heap.size, 1, none⟩ = some (.slice none 0 0) := by rw [cell_of_heap' hRB]; rfl
        have rz := frozen_cells hRB
        clear hie hlt hE4 HG hRB c0 c4 c5
        by_cases hE : E4.1 = 0
        · obtain ⟨hrr, hfin⟩ := hfo hE
          have HPOST : Hid (parseB badB (bl s) = .ok ⟨s2.top.kids, s2.defs⟩) := by unfold Hid; rw [HPR.out]; exact hfin
          rw [hE] at c6
          replace c6 : wr.cell? ⟨bx, 6, none⟩ = some (.int .i64 0) := c6
          obtain ⟨g2, c2', cs', vn', vk', kv', hsv', -, -, hcg, hgB, hgl, hown, hcl', -, -, -, hK, -, hF, hgz⟩ := HG4.out.top
          obtain ⟨rfl, rfl⟩ : g = g2 ∧ c = c2' := by injection hsv' with e1 _ e2; injection e1 with e1; injection e1 with e1; exact ⟨e1, e2⟩
          obtain ⟨ka, kc, rfl⟩ := hK.slice
          have f10 : wr.cell? ⟨g, 10, none⟩ = some (.slice ka s2.top.kids.len kc) := by
            have := hF 10 _ rfl
            rwa [hrr, show ([] : List Fr).length * 14 + 10 = 10 from rfl] at this
          have w01 : (0 : Int) < (s2.rest.length : Int) + 1 := by omega
          have w02 : (0 : Int) < ((s2.rest.length + 1 : Nat) : Int) := by omega
          have HK := Lib.hid hK
          have hgbx : ¬ bx = w.heap.size := fun e => by have := HG4.out.bb; omega
          have hgbx2 : ¬ w.heap.size = bx := fun e => hgbx e.symm
          clear hE hfe hfo hfin HLT HE3 hF hown hcl' hsv' hcg hgB hrr hK c7
          have HC1 := Lib.hid c1
          go_wp2_with fail
          have hRB2 := (Below.heap_setCell wr ⟨bx, 2, none⟩ (.slice ka s2.top.kids.len kc) _ (show w.heap.size ≠ bx from hgbx2)).trans HRB.out
          refine bodyPost_ret (results_ref rfl rfl (two_cells hRB2 rfl _ _)) rfl ?_
          rw [HPOST.out]
          have hol : ∀ b, b < W0.heap.size → col b = 1 := HG4.out.ol
          have hcw : col w.heap.size = 1 := hol _ (by omega)
          have hS1 := same_set col wr bx 2 1 (.slice ka s2.top.kids.len kc) HG4.out.cx
          have hS2 := same_set col (wr.setCell ⟨bx, 2, none⟩ (.slice ka s2.top.kids.len kc)) w.heap.size 0 1 (.slice ka s2.top.kids.len kc) hcw
          have hS3 := same_set col ((wr.setCell ⟨bx, 2, none⟩ (.slice ka s2.top.kids.len kc)).setCell ⟨w.heap.size, 0, none⟩ (.slice ka s2.top.kids.len kc)) w.heap.size 1 1 (.slice da s2.defs.length dc) hcw
          have hS := same_tr (same_tr hS1 hS2) hS3
          have hkc : ∀ g, (Value.slice ka s2.top.kids.len kc).ownBlock = some g → col g = 6 + 2 * s2.rest.length := by
            obtain ⟨cs, ⟨-, h2⟩, -⟩ := HK.out
            exact h2
          have hSF : Same (fun k => k ≠ 1 ∧ k ≠ 6 + 2 * s2.rest.length) col (fade col (.slice ka s2.top.kids.len kc)) wr _ := ⟨hS.1, fun b hb hc => ⟨fade_old hkc hc.2, (hS.2 b hb hc.1).2⟩⟩
          have hnew : ∀ b, (fade col (.slice ka s2.top.kids.len kc) b = 0 ∨ fade col (.slice ka s2.top.kids.len kc) b = 3) → w.heap.size ≤ b := by
            intro b h
            rcases Nat.lt_or_ge b W0.heap.size with h1 | h1
            · have h2 := hol b h1
              rw [fade_old hkc (by rw [h2]; omega), h2] at h
              omega
            · omega
          refine ⟨((HBB.out.setCell (p := ⟨bx, 2, none⟩) (show w.heap.size ≤ bx by have := HG4.out.bb; omega) (.slice ka s2.top.kids.len kc)).setCell (p := ⟨w.heap.size, 0, none⟩) (Nat.le_refl _) (.slice ka s2.top.kids.len kc)).setCell (p := ⟨w.heap.size, 1, none⟩) (Nat.le_refl _) (.slice da s2.defs.length dc), _, _, rfl, ?_, ?_⟩
          · exact (kids_faded HK.out hSF ⟨by omega, by omega⟩ (fun g' hg' => (hS.2 g' (by
              obtain ⟨cs, ⟨h1, -⟩, -⟩ := HK.out
              exact (World.ownsRow.lt h1 g' hg').2) (by rw [hkc g' hg']; omega)).2)).mono (fun b hb => ⟨hnew b (.inl hb.1), hb.2.1⟩)
          · exact ((HG4.out.df.same hSF ⟨by omega, by omega⟩ ⟨by omega, by omega⟩).defs).mono (fun b hb => ⟨hnew b hb.1, hb.2⟩)
        · have hEI : ((E4.1 : Int) == 0) = false := beq_eq_false_iff_ne.2 (by omega)
          have HPOST : Hid (parseB badB (bl s) = .err E4.1 E4.2) := by unfold Hid; rw [HPR.out]; exact hfe hE
          clear hE hfe hfo HLT HE3 HG4 c1 c2 c3
          go_upto_region 39 with (fail)
          go_region
          all_goals
            go_wp2_with fail
            refine bodyPost_ret (results_ref rfl rfl (two_cells HRB.out rfl _ _)) rfl ?_
            rw [HPOST.out]
            exact ⟨((HBB.out.setCell (p := ⟨w.heap.size, 0, none⟩) (Nat.le_refl _) _).setCell (p := ⟨w.heap.size, 1, none⟩) (Nat.le_refl _) _).trans ((Sl.drew _).below _), rfl⟩
  · have hpos : 0 < s2.rest.length := List.length_pos_iff.2 hr0
    have hn1 : (1 : Int) < ((s2.rest.length + 1 : Nat) : Int) := by omega
    have hn2 : (1 : Int) < (s2.rest.length : Int) + 1 := by omega
    have FC := Lib.hid (failR_calls W0.heap.size 100000 bx 192 s.size s s2 E2 _ _ _ _ _ hg)
    have hl : lat E2 192 s.size = E3 := by rw [← hE3]; unfold stE; rw [if_neg hr0]
    rw [hl] at FC
    have HBW := Lib.hid hbw
    clear hg hbw hE3 hr0 hl
    go_upto_region 28 with (go_at_call 45; refine FC.out.mono ?_; rintro e w3 ⟨rfl, hb3, hs3, hg3⟩; have HG3 := Lib.hid hg3; have HB3 := Lib.hid (HBW.out.trans hb3); clear hb3 hs3 hg3)
    clear k1
    have l3 : s2.defs.length ≤ 100000 := HG3.out.l3
    have l4 : s2.calls.length ≤ 100000 := HG3.out.l4
    obtain ⟨da, dc, rfl⟩ : ∃ a k, dv = .slice a s2.defs.length k := by obtain ⟨cs, h, -⟩ := HG3.out.df; exact h.slice
    obtain ⟨ca, cc, rfl⟩ : ∃ a k, cv = .slice a s2.calls.length k := by obtain ⟨cs, h, -⟩ := HG3.out.cl; exact h.slice
    go_wp2_with fail
    go_loopw [14, 15, 16] (fun v14 v15 v16 wr => ∃ i : Nat, v14 = .int .i64 (i : Nat) ∧ i ≤ s2.calls.length ∧ Hid (RdR W0.heap.size 100000 bx s s2 (nnE s2.defs E3 (s2.calls.take i)) col (.slice (some ⟨g, 0, none⟩) (s2.rest.length + 1) c) (.slice da s2.defs.length dc) (.slice ca s2.calls.length cc) wr) ∧ Hid (Below W0.heap.size W0 wr)) (fun v _ _ _ => s2.calls.length - (intOf v).toNat)
    case atStart => exact ⟨0, rfl, Nat.zero_le _, HG3, HB3⟩
    case round =>
      obtain ⟨i, rfl, hi, HG, HB⟩ := hrel
      clear HG3 HB3
      have k5 : wr.cell? ⟨bx, 5, none⟩ = some (.slice ca s2.calls.length cc) := HG.out.cells.2.2.2.2.2.1
      by_cases hlt : i < s2.calls.length
      · have hltI : (i : Int) < (s2.calls.length : Int) := by omega
        have hi0 : (0 : Int) ≤ (i : Int) := by omega
        obtain ⟨cl, hcl⟩ : ∃ c, s2.calls[i]? = some c := ⟨_, List.getElem?_eq_getElem hlt⟩
        have HNN := Lib.hid (nn_step s2.defs E3 s2.calls i cl hcl)
        obtain ⟨X, hX⟩ : ∃ X, mkB cl.1 = X := ⟨_, rfl⟩
        have bX : bl X = cl.1 := by rw [← hX]; exact bl_mkB _
        have hcc : ∃ g4, ca = some ⟨g4, 0, none⟩ ∧ ∀ wq : World, RdR W0.heap.size 100000 bx s s2 (nnE s2.defs E3 (s2.calls.take i)) col (.slice (some ⟨g, 0, none⟩) (s2.rest.length + 1) c) (.slice da s2.defs.length dc) (.slice ca s2.calls.length cc) wq → wq.cell? ⟨g4, i * 8 + 5, none⟩ = some (.string X) ∧ wq.cell? ⟨g4, i * 8 + 1, none⟩ = some (.int .i64 (cl.2 : Nat)) := by
          have get : ∀ wq : World, RdR W0.heap.size 100000 bx s s2 (nnE s2.defs E3 (s2.calls.take i)) col (.slice (some ⟨g, 0, none⟩) (s2.rest.length + 1) c) (.slice da s2.defs.length dc) (.slice ca s2.calls.length cc) wq → ∃ g4, ca = some ⟨g4, 0, none⟩ ∧ wq.cell? ⟨g4, i * 8 + 5, none⟩ = some (.string X) ∧ wq.cell? ⟨g4, i * 8 + 1, none⟩ = some (.int .i64 (cl.2 : Nat)) := by
            intro wq hq
            obtain ⟨cs4, ⟨h4, -⟩, hrow4⟩ := hq.cl
            obtain ⟨g4, c4', hv4, -, -, -, -, h5⟩ := ownsRow.elems h4 (by omega)
            injection hv4 with e1
            obtain ⟨root, va, vl, vc, q0, q1, q2, q3, q4, q5, -⟩ := CRowC.at s2.calls cs4 i cl hcl hrow4
            rw [hX] at q5
            exact ⟨g4, e1, h5 _ _ q5, h5 _ _ q1⟩
          obtain ⟨g4, e1, -⟩ := get wr HG.out
          refine ⟨g4, e1, fun wq hq => ?_⟩
          obtain ⟨g5, e2, h6⟩ := get wq hq
          rw [e1] at e2
          injection e2 with e2
          injection e2 with e2
          rw [e2]; exact h6
        obtain ⟨g4, rfl, hcw⟩ := hcc
        have HCW := Lib.hid hcw
        clear hcw hX hcl
        go_wp2_with fail
        go_loopw [15, 16] (fun v15 v16 wr2 => ∃ k : Nat, v15 = .bool (hasDef (s2.defs.take k) cl.1) ∧ v16 = .int .i64 (k : Nat) ∧ k ≤ s2.defs.length ∧ Hid (RdR W0.heap.size 100000 bx s s2 (nnE s2.defs E3 (s2.calls.take i)) col (.slice (some ⟨g, 0, none⟩) (s2.rest.length + 1) c) (.slice da s2.defs.length dc) (.slice (some ⟨g4, 0, none⟩) s2.calls.length cc) wr2) ∧ Hid (Below W0.heap.size W0 wr2)) (fun _ v _ => s2.defs.length - (intOf v).toNat)
        case atStart => exact ⟨0, rfl, rfl, Nat.zero_le _, HG, HB⟩
        case round =>
          obtain ⟨k2, rfl, rfl, hk2, HG2, HB2⟩ := hrel
          clear HG HB k5
          have d3 : wr.cell? ⟨bx, 3, none⟩ = some (.slice da s2.defs.length dc) := HG2.out.cells.2.2.2.1
          have d5 : wr.cell? ⟨bx, 5, none⟩ = some (.slice (some ⟨g4, 0, none⟩) s2.calls.length cc) := HG2.out.cells.2.2.2.2.2.1
          obtain ⟨n5, n1⟩ := HCW.out _ HG2.out
          by_cases hlt2 : k2 < s2.defs.length
          · have hltI2 : (k2 : Int) < (s2.defs.length : Int) := by omega
            have hk0 : (0 : Int) ≤ (k2 : Int) := by omega
            obtain ⟨d, hd⟩ : ∃ d, s2.defs[k2]? = some d := ⟨_, List.getElem?_eq_getElem hlt2⟩
            have HTK := Lib.hid (hasDef_take s2.defs cl.1 k2 d hd)
            have hdc : ∃ g3, da = some ⟨g3, 0, none⟩ ∧ wr.cell? ⟨g3, k2 * 3, none⟩ = some (.string d.name) := by
              obtain ⟨cs3, ⟨h3, -⟩, hrow3⟩ := HG2.out.df
              obtain ⟨g3, c3', hv3, -, -, -, -, h5⟩ := ownsRow.elems h3 (by omega)
              injection hv3 with e1
              refine ⟨g3, e1, ?_⟩
              have hrw := DRowC.drow s2.defs cs3 g3 0 hrow3 (fun j u hj => by rw [Nat.zero_add]; exact h5 j u hj)
              have := (DRow.at s2.defs g3 0 k2 d hd hrw).1
              rwa [Nat.zero_add] at this
            obtain ⟨g3, rfl, dn⟩ := hdc
            have e2 := str_eq2 d.name X
            have e3 := str_eq3 d.name X
            rw [bX] at e2 e3
            clear hd
            cases hT : hasDef (s2.defs.take k2) cl.1 with
            | true =>
              have HT2 : Hid (true = hasDef (s2.defs.take (k2 + 1)) cl.1) := by unfold Hid; rw [HTK.out, hT]; rfl
              clear HTK hT e2 e3 dn
              go_upto_region 35 with (fail)
              go_quiet (fail)
              go_wp2_with fail
              exact ⟨⟨k2 + 1, congrArg Value.bool HT2.out, by go_num, by omega, HG2.out.same ((Sl.drewN wr _).same (fun _ => True) _) (fun _ _ _ => trivial) (Nat.le_refl _), HB2.out.trans ((Sl.drewN wr _).below _)⟩, by simp [intOf]; omega⟩
            | false =>
              have HT2 : Hid (decide (bl d.name = cl.1) = hasDef (s2.defs.take (k2 + 1)) cl.1) := by unfold Hid; rw [HTK.out, hT]; rfl
              clear HTK hT
              generalize decide (bl d.name = cl.1) = eq1 at *
              go_upto_region 35 with (fail)
              go_quiet (fail)
              go_wp2_with fail
              exact ⟨⟨k2 + 1, congrArg Value.bool HT2.out, by go_num, by omega, HG2.out.same ((Sl.drewN wr _).same (fun _ => True) _) (fun _ _ _ => trivial) (Nat.le_refl _), HB2.out.trans ((Sl.drewN wr _).below _)⟩, by simp [intOf]; omega⟩
          · have hltI2 : ¬ (k2 : Int) < (s2.defs.length : Int) := by omega
            have hke : s2.defs.take k2 = s2.defs := List.take_of_length_le (by omega)
            rw [hke]
            clear hke hlt2
            have FC := Lib.hid (failR_calls W0.heap.size 100000 bx 195 cl.2 s s2 _ _ _ _ _ _ HG2.out)
            cases hT : hasDef s2.defs cl.1 with
            | true =>
              have HN2 : Hid (nnE s2.defs E3 (s2.calls.take i) = nnE s2.defs E3 (s2.calls.take (i + 1))) := by unfold Hid; rw [HNN.out, if_pos hT]
              have HG4 : Hid (RdR W0.heap.size 100000 bx s s2 (nnE s2.defs E3 (s2.calls.take (i + 1))) col (.slice (some ⟨g, 0, none⟩) (s2.rest.length + 1) c) (.slice da s2.defs.length dc) (.slice (some ⟨g4, 0, none⟩) s2.calls.length cc) wr) := by unfold Hid; rw [← HN2.out]; exact HG2.out
              clear HNN hT HN2 HG2 FC
              go_wp2_with fail
              exact ⟨⟨i + 1, by go_num, by omega, HG4, HB2⟩, by simp [intOf]; omega⟩
            | false =>
              have HN2 : Hid (lat (nnE s2.defs E3 (s2.calls.take i)) 195 cl.2 = nnE s2.defs E3 (s2.calls.take (i + 1))) := by unfold Hid; rw [HNN.out, if_neg (by rw [hT]; decide)]
              clear HNN hT HG2
              go_wp2_with fail
              refine FC.out.mono ?_
              rintro e w4 ⟨rfl, hb4, hs4, hg4⟩
              have HB4 := Lib.hid (HB2.out.trans hb4)
              have HG4 : Hid (RdR W0.heap.size 100000 bx s s2 (nnE s2.defs E3 (s2.calls.take (i + 1))) col (.slice (some ⟨g, 0, none⟩) (s2.rest.length + 1) c) (.slice da s2.defs.length dc) (.slice (some ⟨g4, 0, none⟩) s2.calls.length cc) w4) := by unfold Hid; rw [← HN2.out]; exact hg4
              clear hb4 hs4 hg4 FC HN2
              go_wp2_with fail
              exact ⟨⟨i + 1, by go_num, by omega, HG4, HB4⟩, by simp [intOf]; omega⟩
      · have hltI : ¬ (i : Int) < (s2.calls.length : Int) := by omega
        have hie : s2.calls.take i = s2.calls := List.take_of_length_le (by omega)
        have HG4 : Hid (RdR W0.heap.size 100000 bx s s2 (nnE s2.defs E3 s2.calls) col (.slice (some ⟨g, 0, none⟩) (s2.rest.length + 1) c) (.slice da s2.defs.length dc) (.slice ca s2.calls.length cc) wr) := by unfold Hid; have := HG.out; rwa [hie] at this
        obtain ⟨E4, hE4⟩ : ∃ E, nnE s2.defs E3 s2.calls = E := ⟨_, rfl⟩
        rw [hE4] at HG4
        obtain ⟨hfe, hfo⟩ := fin_law s.size HLT.out E4 (by rw [← hE4, HE3.out])
        have hRB := (HB.out.block w.heap.size (by omega)).trans hR0.out
        have HRB := Lib.hid hRB
        have HBB := Lib.hid (hB0.out.trans (HB.out.mono (by omega)))
        obtain ⟨c0, c1, c2, c3, c4, c5, c6, c7, fz⟩ := HG4.out.cells
        have r0 : wr.cell? ⟨w.heap.size, 0, none⟩ = some (.slice none 0 0) := by rw [cell_of_heap' hRB]; rfl
        have r1 : wr.cell? ⟨w.heap.size, 1, none⟩ = some (.slice none 0 0) := by rw [cell_of_heap' hRB]; rfl
        have rz := frozen_cells hRB
        clear hie hlt hE4 HG hRB c0 c4 c5
        by_cases hE : E4.1 = 0
        · obtain ⟨hrr, hfin⟩ := hfo hE
          have HPOST : Hid (parseB badB (bl s) = .ok ⟨s2.top.kids, s2.defs⟩) := by unfold Hid; rw [HPR.out]; exact hfin
          rw [hE] at c6
          replace c6 : wr.cell? ⟨bx, 6, none⟩ = some (.int .i64 0) := c6
          obtain ⟨g2, c2', cs', vn', vk', kv', hsv', -, -, hcg, hgB, hgl, hown, hcl', -, -, -, hK, -, hF, hgz⟩ := HG4.out.top
          obtain ⟨rfl, rfl⟩ : g = g2 ∧ c = c2' := by injection hsv' with e1 _ e2; injection e1 with e1; injection e1 with e1; exact ⟨e1, e2⟩
          obtain ⟨ka, kc, rfl⟩ := hK.slice
          have f10 : wr.cell? ⟨g, 10, none⟩ = some (.slice ka s2.top.kids.len kc) := by
            have := hF 10 _ rfl
            rwa [hrr, show ([] : List Fr).length * 14 + 10 = 10 from rfl] at this
          have w01 : (0 : Int) < (s2.rest.length : Int) + 1 := by omega
          have w02 : (0 : Int) < ((s2.rest.length + 1 : Nat) : Int) := by omega
          have HK := Lib.hid hK
          have hgbx : ¬ bx = w.heap.size := fun e => by have := HG4.out.bb; omega
          have hgbx2 : ¬ w.heap.size = bx := fun e => hgbx e.symm
          clear hE hfe hfo hfin HLT HE3 hF hown hcl' hsv' hcg hgB hrr hK c7
          have HC1 := Lib.hid c1
          go_wp2_with fail
          have hRB2 := (Below.heap_setCell wr ⟨bx, 2, none⟩ (.slice ka s2.top.kids.len kc) _ (show w.heap.size ≠ bx from hgbx2)).trans HRB.out
          refine bodyPost_ret (results_ref rfl rfl (two_cells hRB2 rfl _ _)) rfl ?_
          rw [HPOST.out]
          have hol : ∀ b, b < W0.heap.size → col b = 1 := HG4.out.ol
          have hcw : col w.heap.size = 1 := hol _ (by omega)
          have hS1 := same_set col wr bx 2 1 (.slice ka s2.top.kids.len kc) HG4.out.cx
          have hS2 := same_set col (wr.setCell ⟨bx, 2, none⟩ (.slice ka s2.top.kids.len kc)) w.heap.size 0 1 (.slice ka s2.top.kids.len kc) hcw
          have hS3 := same_set col ((wr.setCell ⟨bx, 2, none⟩ (.slice ka s2.top.kids.len kc)).setCell ⟨w.heap.size, 0, none⟩ (.slice ka s2.top.kids.len kc)) w.heap.size 1 1 (.slice da s2.defs.length dc) hcw
          have hS := same_tr (same_tr hS1 hS2) hS3
          have hkc : ∀ g, (Value.slice ka s2.top.kids.len kc).ownBlock = some g → col g = 6 + 2 * s2.rest.length := by
            obtain ⟨cs, ⟨-, h2⟩, -⟩ := HK.out
            exact h2
          have hSF : Same (fun k => k ≠ 1 ∧ k ≠ 6 + 2 * s2.rest.length) col (fade col (.slice ka s2.top.kids.len kc)) wr _ := ⟨hS.1, fun b hb hc => ⟨fade_old hkc hc.2, (hS.2 b hb hc.1).2⟩⟩
          have hnew : ∀ b, (fade col (.slice ka s2.top.kids.len kc) b = 0 ∨ fade col (.slice ka s2.top.kids.len kc) b = 3) → w.heap.size ≤ b := by
            intro b h
            rcases Nat.lt_or_ge b W0.heap.size with h1 | h1
            · have h2 := hol b h1
              rw [fade_old hkc (by rw [h2]; omega), h2] at h
              omega
            · omega
          refine ⟨((HBB.out.setCell (p := ⟨bx, 2, none⟩) (show w.heap.size ≤ bx by have := HG4.out.bb; omega) (.slice ka s2.top.kids.len kc)).setCell (p := ⟨w.heap.size, 0, none⟩) (Nat.le_refl _) (.slice ka s2.top.kids.len kc)).setCell (p := ⟨w.heap.size, 1, none⟩) (Nat.le_refl _) (.slice da s2.defs.length dc), _, _, rfl, ?_, ?_⟩
          · exact (kids_faded HK.out hSF ⟨by omega, by omega⟩ (fun g' hg' => (hS.2 g' (by
              obtain ⟨cs, ⟨h1, -⟩, -⟩ := HK.out
              exact (World.ownsRow.lt h1 g' hg').2) (by rw [hkc g' hg']; omega)).2)).mono (fun b hb => ⟨hnew b (.inl hb.1), hb.2.1⟩)
          · exact ((HG4.out.df.same hSF ⟨by omega, by omega⟩ ⟨by omega, by omega⟩).defs).mono (fun b hb => ⟨hnew b hb.1, hb.2⟩)
        · have hEI : ((E4.1 : Int) == 0) = false := beq_eq_false_iff_ne.2 (by omega)
          have HPOST : Hid (parseB badB (bl s) = .err E4.1 E4.2) := by unfold Hid; rw [HPR.out]; exact hfe hE
          clear hE hfe hfo HLT HE3 HG4 c1 c2 c3
          go_upto_region 39 with (fail)
          go_region
          all_goals
            go_wp2_with fail
            refine bodyPost_ret (results_ref rfl rfl (two_cells HRB.out rfl _ _)) rfl ?_
            rw [HPOST.out]
            exact ⟨((HBB.out.setCell (p := ⟨w.heap.size, 0, none⟩) (Nat.le_refl _) _).setCell (p := ⟨w.heap.size, 1, none⟩) (Nat.le_refl _) _).trans ((Sl.drew _).below _), rfl⟩
end Go.Proofs.YtdgcdjpjnhlihaaGreatDoor
set_option linter.unusedVariables false
namespace Go.Proofs.YtdgcdjpjnhlihaaGreatDoor
open Go.RowKit Go.Shelf Go.Lib

set_option maxRecDepth 100000 in
theorem parseR_calls (s : ByteArray) (hs : s.size ≤ 16384) (w : World) : Calls Tryz.prog 19 #[.string s] w (RefR w (parseB badB (bl s))) :=
  (parCap s hs w).2.2 (par_a s hs w) (par_b s hs w)
end Go.Proofs.YtdgcdjpjnhlihaaGreatDoor
