/-
  tmpl.Parse up to where its loop ends: the goal there captured, twice (the loop's test, the break). The condition: valid's contract is given; MaxLen holds some number.
-/
import Derived.Test.YtepcpgdfbaklfaaGreatDoorMgTac2
set_option linter.unusedVariables false
namespace Go.Proofs.YtepcpgdfbaklfaaGreatDoor
open Go.RowKit Go.Shelf

/-- What a round of Parse's hands on. -/
def PrR (s : ByteArray) (B bx : Nat) (W1 : World) (RR : Rs St) (v5 : Value) (wr : World) : Prop :=
  ∃ (k : Nat) (st : St), v5 = .int .i64 (k : Nat) ∧ k ≤ s.size ∧ RdM B (3 * k) bx st wr ∧ Below B W1 wr ∧ Hid (readF s.size ((bl s).drop k) k st = RR)
theorem PrR.mk {s : ByteArray} {B bx : Nat} {W1 : World} {RR : Rs St} {j : Int} {wr : World} (k : Nat) (st : St) (hj : j = ((k : Nat) : Int)) (h1 : k ≤ s.size) (h2 : RdM B (3 * k) bx st wr) (h3 : Below B W1 wr) (h4 : Hid (readF s.size ((bl s).drop k) k st = RR)) : PrR s B bx W1 RR (.int .i64 j) wr :=
  ⟨k, st, by rw [hj], h1, h2, h3, h4⟩
/-- The way out of Parse's body where it gives up. -/
theorem parse_out {w w1 W : World} {r : Rs Tm} {a : Act} (n p : Nat) (hs1 : w.heap.size + 2 ≤ w1.heap.size) (HB1 : Below w.heap.size w w1) (HT1 : w1.heap[w.heap.size]? = some (.cells #[.slice none 0 0, .slice none 0 0] 25 (0, 0)))
    (HE1 : w1.heap[w.heap.size + 1]? = some (.cells #[.nilIface] 64 (0, 0))) (hBW : Below w1.heap.size w1 W) (hd : a.defers = closeD w.heap.size (w.heap.size + 1)) (h2 : a.tmps.getD 2 undef = .pointer (some ⟨w.heap.size, 0, none⟩))
    (h3 : a.tmps.getD 3 undef = .pointer (some ⟨w.heap.size + 1, 0, none⟩)) (hr : r = .err n p) :
    bodyPostD Tryz.prog Tryz.f26 (ParseU w r) (.panic [{ v := .iface 84 (.agg #[.int .i64 (n : Nat), .int .i64 (p : Nat)]), recovered := false }]) a W := by
  refine parse_panic n p hd h2 h3 (by omega) ((hBW.block _ (by omega)).trans HT1) ((hBW.block _ (by omega)).trans HE1) ?_
  intro bf w' k1 k2 k3 k4 k5 k6 k7
  rw [hr]
  have hsz := hBW.size
  refine ⟨⟨k3.trans (hBW.os.trans HB1.os), k4.trans (hBW.tape.trans HB1.tape), k5.trans (hBW.output.trans HB1.output), by omega, fun b hb => ?_⟩, bf, rfl, by omega, k2⟩
  exact (k7 b (by omega) (by omega) (by omega)).trans ((hBW.block b (by omega)).trans (HB1.block b hb))
set_option maxRecDepth 100000 in
set_option maxHeartbeats 10000000 in
/-- The call, out of what stands behind its loop: where the loop's test ends it, and where the break does. -/
noncomputable def parseCap (bad : By → Option Nat) (s : ByteArray) (hs : s.size ≤ 16384) (w : World) (hsh : Gd w) (hb : bad (bl s) = none) (VA : ∀ w, Gd w → Calls Tryz.prog 44 #[.string s] w (ValidR w none)) :
    PSigma fun P : Nat → Prop => PSigma fun Q : Nat → Prop => (∀ u, P u) → (∀ u, Q u) → Calls Tryz.prog 26 #[.string s] w (ParseU w (parseB bad (bl s))) := by
  refine ⟨?P, ?Q, fun CAPP CAPQ => ?main⟩
  case main =>
    have hmf : ∀ (fn : Fn) (first cap : Array Value) (w : World), (Instr.makeFunc fn first cap).run Tryz.prog w = .ok (.func fn first cap) w := fun _ _ _ _ => rfl
    have hs' : ¬ (16384 : Int) < (s.size : Int) := by omega
    have HVA := Lib.hid VA
    go_enter_defers Tryz.func26, Tryz.ntmps26
    go_wp2_with fail
    have hb0 : Below w.heap.size w ((w.alloc (.cells #[.slice none 0 0, .slice none 0 0] 25)).alloc (.cells #[.nilIface] 64)) := ((Below.refl w.heap.size w).alloc (Nat.le_refl _) _).alloc (by simp) _
    have hsz0 : ((w.alloc (.cells #[.slice none 0 0, .slice none 0 0] 25)).alloc (.cells #[.nilIface] 64)).heap.size = w.heap.size + 2 := by simp
    have hT0 : ((w.alloc (.cells #[.slice none 0 0, .slice none 0 0] 25)).alloc (.cells #[.nilIface] 64)).heap[w.heap.size]? = some (.cells #[.slice none 0 0, .slice none 0 0] 25 (0, 0)) :=
      (Below.heap_alloc _ _ _ (by simp)).trans (heap_alloc_new w _)
    have hE0 : ((w.alloc (.cells #[.slice none 0 0, .slice none 0 0] 25)).alloc (.cells #[.nilIface] 64)).heap[w.heap.size + 1]? = some (.cells #[.nilIface] 64 (0, 0)) := by
      have := heap_alloc_new (w.alloc (.cells #[.slice none 0 0, .slice none 0 0] 25)) (.cells #[.nilIface] 64)
      rwa [show (w.alloc (.cells #[.slice none 0 0, .slice none 0 0] 25)).heap.size = w.heap.size + 1 by simp] at this
    have HB0 := Lib.hid hb0
    have HT0 := Lib.hid hT0
    have HE0 := Lib.hid hE0
    have HS0 := Lib.hid hsz0
    clear hb0 hT0 hE0 hsz0
    refine (HVA.out _ (hsh.below HB0.out)).mono ?_
    rintro e w1 ⟨hb1, rfl⟩
    have hbt := (hb1.block w.heap.size (by rw [HS0.out]; omega)).trans HT0.out
    have hbe := (hb1.block (w.heap.size + 1) (by rw [HS0.out]; omega)).trans HE0.out
    have hb01 : Below w.heap.size w w1 := HB0.out.trans (hb1.mono (by rw [HS0.out]; omega))
    have hs1 : w.heap.size + 2 ≤ w1.heap.size := by have := hb1.size; rw [HS0.out] at this; exact this
    have HB1 := Lib.hid hb01
    have HT1 := Lib.hid hbt
    have HE1 := Lib.hid hbe
    have hsh1 := hsh.1.below hb01
    clear hbt hbe hb01 hb1 HB0 HT0 HE0 HS0 HVA
    have HST := Lib.hid (RdG.start w1)
    go_wp2_with fail
    generalize hW : World.alloc (World.alloc (World.alloc w1 _) _) _ = W1
    obtain ⟨bx, hbx⟩ : ∃ bx, w1.heap.size + 1 + 1 = bx := ⟨_, rfl⟩
    have hst : RdM w1.heap.size 0 bx St.start W1 := by
      rw [← hW, ← hbx]
      exact ⟨_, _, _, _, _, HST.out⟩
    rw [hbx]
    have hbw : Below w1.heap.size w1 W1 := by
      rw [← hW]
      exact (((Below.refl w1.heap.size w1).alloc (Nat.le_refl _) _).alloc (by simp) _).alloc (by simp; omega) _
    have HBW := Lib.hid hbw
    clear hW HST hbw hbx
    obtain ⟨RR, hRR⟩ : ∃ RR, readF s.size (bl s) 0 St.start = RR := ⟨_, rfl⟩
    have HRR := Lib.hid hRR
    have HPB : Hid (parseB bad (bl s) = RR.bind (finish s.size)) := by
      unfold Hid parseB
      rw [bl_len, if_neg (by omega), hb, ← hRR]
    clear hRR
    go_loopw [5] (fun v5 wr => PrR s w1.heap.size bx w1 RR v5 wr) (fun v5 _ => s.size - (intOf v5).toNat)
    case atStart => exact ⟨0, St.start, rfl, Nat.zero_le _, hst, HBW.out, HRR.out⟩
    case round =>
      obtain ⟨k, st, rfl, hk, hrd, hbr, HQ⟩ := hrel
      have HRD := Lib.hid hrd
      have HBR := Lib.hid hbr
      have hshr : Sh wr := hsh1.below hbr
      clear hst hrd hbr
      by_cases hlt : k < s.size
      · have hlt' : (k : Int) < (s.size : Int) := by omega
        have hXs : (s.extract k s.size).size = s.size - k := by simp
        have hX : bl (s.extract k s.size) = (bl s).drop k := by unfold bl; rw [Lib.extract_to_end]
        have hne : (bl s).drop k ≠ [] := by intro e; have := congrArg List.length e; simp [bl] at this; omega
        have hstep := readF_step s.size ((bl s).drop k) k st hne (by simp [bl])
        rw [HQ.out] at hstep
        cases hc : cut2 123 ((bl s).drop k) with
        | none =>
          rw [hc] at hstep
          dsimp only at hstep
          have HE := Lib.hid hstep
          have CU := Lib.hid (cutN_calls 123 (s.extract k s.size) (by omega) wr hshr (by rw [hX]; exact hc))
          obtain ⟨A, hA⟩ : ∃ A, s.extract k s.size = A := ⟨_, rfl⟩
          have CU2 : Hid (Calls Tryz.prog 45 #[.string (s.extract k s.size), .string ⟨#[123, 123]⟩] wr fun e w' => e = .returned (.tuple #[.string A, .string ⟨#[]⟩, .bool false]) ∧ Sl wr w') := by
            unfold Hid
            rw [← hA]
            exact CU.out
          have hAs : A.size = s.size - k := by rw [← hA]; exact hXs
          have hAe : A.toList.isEmpty = false := by rw [← hA, ByteArray.toList_eq]; show (bl (s.extract k s.size)).isEmpty = false; rw [hX]; cases hd : (bl s).drop k with | nil => exact absurd hd hne | cons a r => rfl
          have hAd : (bl s).drop k = bl A := by rw [← hA, hX]
          rw [hAd] at hstep
          have HE := Lib.hid hstep
          clear CU hA hX hXs hne hc hAd hstep
          go_wp2_with fail
          refine CU2.out.mono ?_
          rintro e w2 ⟨rfl, hsl⟩
          have HR2 : Hid (RdM w1.heap.size (3 * k) bx st w2) := by
            obtain ⟨col, bs, sv, dv, cv, hg⟩ := HRD.out
            exact ⟨col, bs, sv, dv, cv, hg.same (hsl.same (fun _ => True) col) (fun _ => trivial) (Nat.le_refl _)⟩
          have HB2 := Lib.hid (HBR.out.trans (hsl.below w1.heap.size))
          clear hsl CU2
          have AD : Hid (Calls Tryz.prog 46 #[.pointer (some ⟨bx, 0, none⟩), .agg #[.int .u8 1, .int .i64 (k : Nat), .string A, .bool false, .slice none 0 0, .string ⟨#[]⟩, .slice none 0 0, .slice none 0 0]] w2 (RsPost w1.heap.size (3 * k + 1) bx w2 RR)) := by
            obtain ⟨col, bs, sv, dv, cv, hg⟩ := HR2.out
            have := add_calls w1.heap.size (3 * k) bx (by omega) st (hdText k (bl A)) k (by omega) rfl col bs sv dv cv (.slice none 0 0) w2 hg (Strs.nil _ _)
            have he : (hdText k (bl A)).text = A := mkB_bl A
            rw [he] at this
            unfold Hid
            rw [HE.out]
            exact this
          go_wp2_with fail
          refine AD.out.mono ?_
          rintro e w3 ⟨hb3, h3⟩
          have HB3 := Lib.hid (HB2.out.trans hb3)
          clear hb3 AD
          cases hR : RR with
          | err ee ii =>
            rw [hR] at h3
            have h4 : e = .panicked [{ v := .iface 84 (.agg #[.int .i64 (ee : Nat), .int .i64 (ii : Nat)]), recovered := false }] := h3
            subst h4
            have HRR2 := Lib.hid hR
            clear h3 hR
            go_wp2_with fail
            exact parse_out ee ii hs1 HB1.out HT1.out HE1.out HB3.out rfl rfl rfl (by rw [HPB.out, HRR2.out]; rfl)
          | ok st2 =>
            rw [hR] at h3
            obtain ⟨rfl, h4⟩ := h3
            have HRD2 := Lib.hid h4
            have HRR2 := Lib.hid hR
            clear h4 hR
            go_upto_region 18 with (fail)
            have HRD3 := Lib.hid (HRD2.out.mono (show 3 * k + 1 ≤ 3 * s.size + 1 by omega))
            rename_i K3 HEx Q2 K2 hK2 K1 hK1 K0 hK0
            obtain ⟨u, hu⟩ : ∃ u : Nat, u = 0 := ⟨0, rfl⟩
            have HC := CAPQ u
            clear hu CAPQ CAPP hK2 K2 Q2 K3 HEx HE HR2 HB2 HRD HBR HQ hshr HRR HBW W1 w2 hAe hAs hlt hlt' hk HRD2
            revert w1 hs1 HB1 HT1 HE1 hsh1 bx RR HPB wr u6 u7 u8 u9 u10 u11 u27 u28 u29 u30 u31 u32 u33 u34 u35 u36 u37 u38 u39 u40 u41 u42 u43 u44 u45 u46 u47 u48 u49 u50 u51 u52 u53 u54 u55 u56 u57 u58 u59 u60 u61 u62 u63 u64 u65 u66 u67 u68 u69 u70 u71 k st A w3 HB3 st2 HRR2 K1 hK1 K0 hK0 HRD3
            exact HC
        | some q =>
          obtain ⟨a, r⟩ := q
          rw [hc] at hstep
          dsimp only at hstep
          obtain ⟨hdr, -, -⟩ := cut2_some 123 _ _ _ hc
          have hdl : k + (a.length + 2 + r.length) = s.size := by
            have h1 := congrArg List.length hdr
            rw [List.length_drop, bl_len] at h1
            simp only [List.length_append, List.length_cons] at h1
            omega
          have HD := Lib.hid hdr
          have CU := Lib.hid (cutS_calls 123 (s.extract k s.size) (by omega) a r wr hshr (by rw [hX]; exact hc))
          obtain ⟨A, hA⟩ : ∃ A, mkB a = A := ⟨_, rfl⟩
          obtain ⟨Rr, hRr⟩ : ∃ Rr, mkB r = Rr := ⟨_, rfl⟩
          rw [hA, hRr] at CU
          have hAs : A.size = a.length := by rw [← hA]; exact mkB_size a
          have hRs : Rr.size = r.length := by rw [← hRr]; exact mkB_size r
          have HAb : Hid (bl A = a) := by unfold Hid; rw [← hA]; rfl
          have HRb : Hid (bl Rr = r) := by unfold Hid; rw [← hRr]; rfl
          clear hA hRr hX hXs hne hc hdr
          by_cases ha : a = []
          · have hAe : A.toList.isEmpty = true := by rw [ByteArray.toList_eq]; show (bl A).isEmpty = true; rw [HAb.out, ha]; rfl
            rw [if_pos ha, Rs.ok_bind] at hstep
            clear ha
            go_wp2_with fail
            refine CU.out.mono ?_
            rintro e w2 ⟨rfl, hsl⟩
            have HR2 : Hid (RdM w1.heap.size (3 * k) bx st w2) := by
              obtain ⟨col, bs, sv, dv, cv, hg⟩ := HRD.out
              exact ⟨col, bs, sv, dv, cv, hg.same (hsl.same (fun _ => True) col) (fun _ => trivial) (Nat.le_refl _)⟩
            have HB2 := Lib.hid (HBR.out.trans (hsl.below w1.heap.size))
            clear hsl CU
            have hsh3 : Sh w2 := hsh1.below HB2.out
            have CU3 := Lib.hid (fun (hc : cut2 125 r = none) => cutN_calls 125 Rr (by omega) w2 hsh3 (by rw [HRb.out]; exact hc))
            have CU4 := Lib.hid (fun (i r2 : By) (hc : cut2 125 r = some (i, r2)) => cutS_calls 125 Rr (by omega) i r2 w2 hsh3 (by rw [HRb.out]; exact hc))
            cases hc2 : cut2 125 r with
            | none =>
              rw [hc2] at hstep
              dsimp only at hstep
              have HE := Lib.hid hstep
              have CU5 := Lib.hid (CU3.out hc2)
              clear CU3 CU4 hc2 hstep hsh3
              go_wp2_with fail
              refine CU5.out.mono ?_
              rintro e w5 ⟨rfl, hsl⟩
              have HB5 := Lib.hid (HB2.out.trans (hsl.below w1.heap.size))
              clear hsl CU5
              go_wp2_with fail
              have e1 : ((k : Int) + (a.length : Int)) = ((k + a.length : Nat) : Int) := by omega
              rw [e1]
              exact parse_out 191 (k + a.length) hs1 HB1.out HT1.out HE1.out HB5.out rfl rfl rfl (by rw [HPB.out, HE.out]; rfl)
            | some q2 =>
              obtain ⟨i, r2⟩ := q2
              rw [hc2] at hstep
              dsimp only at hstep
              obtain ⟨hr2, -, -⟩ := cut2_some 125 _ _ _ hc2
              have hrl : r.length = i.length + 2 + r2.length := by rw [hr2]; simp; omega
              have CU5 := Lib.hid (CU4.out i r2 hc2)
              obtain ⟨I, hI⟩ : ∃ I, mkB i = I := ⟨_, rfl⟩
              have hIs : I.size = i.length := by rw [← hI]; exact mkB_size i
              have HIb : Hid (bl I = i) := by unfold Hid; rw [← hI]; rfl
              rw [hI] at CU5
              have HD2 : Hid ((bl s).drop (k + a.length + i.length + 4) = r2) := by
                unfold Hid
                rw [show k + a.length + i.length + 4 = k + (a.length + 2 + (i.length + 2)) by omega, ← List.drop_drop, HD.out, hr2]
                rw [show a.length + 2 + (i.length + 2) = a.length + (2 + (i.length + 2)) by omega, ← List.drop_drop, List.drop_left]
                rw [show 2 + (i.length + 2) = (i.length + 2) + 1 + 1 by omega, List.drop_succ_cons, List.drop_succ_cons, ← List.drop_drop, List.drop_left]
                rfl
              have HE := Lib.hid hstep
              clear CU3 CU4 hc2 hstep hsh3 hr2 hI
              go_wp2_with fail
              refine CU5.out.mono ?_
              rintro e w5 ⟨rfl, hsl⟩
              have HR5 : Hid (RdM w1.heap.size (3 * k) bx st w5) := by
                obtain ⟨col, bs, sv, dv, cv, hg⟩ := HR2.out
                exact ⟨col, bs, sv, dv, cv, hg.same (hsl.same (fun _ => True) col) (fun _ => trivial) (Nat.le_refl _)⟩
              have HB5 := Lib.hid (HB2.out.trans (hsl.below w1.heap.size))
              clear hsl CU5
              have AC : Hid (Calls Tryz.prog 47 #[.pointer (some ⟨bx, 0, none⟩), .string I, .int .i64 ((k : Int) + (a.length : Int))] w5 (RsPost w1.heap.size (3 * k + 2) bx w5 (action i (k + a.length) st))) := by
                have := action_calls w1.heap.size (3 * k) bx (by omega) I (by omega) (k + a.length) (by omega) st w5 HR5.out (hsh1.below HB5.out)
                rw [HIb.out, show ((k + a.length : Nat) : Int) = (k : Int) + (a.length : Int) by omega] at this
                exact this
              go_wp2_with fail
              refine AC.out.mono ?_
              rintro e w6 ⟨hb6, h6⟩
              have HB6 := Lib.hid (HB5.out.trans hb6)
              clear hb6 AC
              cases hR3 : action i (k + a.length) st with
              | err ee ii =>
                rw [hR3] at h6
                have h7 : e = .panicked [{ v := .iface 84 (.agg #[.int .i64 (ee : Nat), .int .i64 (ii : Nat)]), recovered := false }] := h6
                subst h7
                have HR33 := Lib.hid hR3
                clear h6 hR3
                go_wp2_with fail
                exact parse_out ee ii hs1 HB1.out HT1.out HE1.out HB6.out rfl rfl rfl (by rw [HPB.out, HE.out]; show ((action i (k + a.length) st).bind _).bind _ = _; rw [HR33.out]; rfl)
              | ok st3 =>
                rw [hR3] at h6
                obtain ⟨rfl, h7⟩ := h6
                have HQ3 : Hid (readF s.size ((bl s).drop (k + a.length + i.length + 4)) (k + a.length + i.length + 4) st3 = RR) := by
                  unfold Hid
                  rw [HD2.out, HE.out]
                  show _ = (action i (k + a.length) st).bind _
                  rw [hR3]; rfl
                have HRD6 := Lib.hid (h7.mono (show 3 * k + 2 ≤ 3 * (k + a.length + i.length + 4) by omega))
                clear h7 hR3
                go_wp2_with fail
                go_roundw
                case rel => exact PrR.mk (k + a.length + i.length + 4) st3 (by omega) (by omega) HRD6.out HB6.out HQ3
                case measure => simp [intOf]; omega
          · have hAe : A.toList.isEmpty = false := by rw [ByteArray.toList_eq]; show (bl A).isEmpty = false; rw [HAb.out]; cases a with | nil => exact absurd rfl ha | cons a r => rfl
            rw [if_neg ha] at hstep
            clear ha
            go_wp2_with fail
            refine CU.out.mono ?_
            rintro e w2 ⟨rfl, hsl⟩
            have HR2 : Hid (RdM w1.heap.size (3 * k) bx st w2) := by
              obtain ⟨col, bs, sv, dv, cv, hg⟩ := HRD.out
              exact ⟨col, bs, sv, dv, cv, hg.same (hsl.same (fun _ => True) col) (fun _ => trivial) (Nat.le_refl _)⟩
            have HB2 := Lib.hid (HBR.out.trans (hsl.below w1.heap.size))
            clear hsl CU
            have AD : Hid (Calls Tryz.prog 46 #[.pointer (some ⟨bx, 0, none⟩), .agg #[.int .u8 1, .int .i64 (k : Nat), .string A, .bool false, .slice none 0 0, .string ⟨#[]⟩, .slice none 0 0, .slice none 0 0]] w2 (RsPost w1.heap.size (3 * k + 1) bx w2 (st.add (hdText k a) k))) := by
              obtain ⟨col, bs, sv, dv, cv, hg⟩ := HR2.out
              have := add_calls w1.heap.size (3 * k) bx (by omega) st (hdText k a) k (by omega) rfl col bs sv dv cv (.slice none 0 0) w2 hg (Strs.nil _ _)
              have he : (hdText k a).text = A := by show mkB a = A; rw [← HAb.out]; exact mkB_bl A
              rw [he] at this
              exact this
            go_wp2_with fail
            refine AD.out.mono ?_
            rintro e w3 ⟨hb3, h3⟩
            have HB3 := Lib.hid (HB2.out.trans hb3)
            clear hb3 AD
            cases hR : st.add (hdText k a) k with
            | err ee ii =>
              rw [hR] at h3 hstep
              have h4 : e = .panicked [{ v := .iface 84 (.agg #[.int .i64 (ee : Nat), .int .i64 (ii : Nat)]), recovered := false }] := h3
              subst h4
              have HE := Lib.hid hstep
              clear h3 hR hstep
              go_wp2_with fail
              exact parse_out ee ii hs1 HB1.out HT1.out HE1.out HB3.out rfl rfl rfl (by rw [HPB.out, HE.out]; rfl)
            | ok st2 =>
              rw [hR] at h3 hstep
              rw [Rs.ok_bind] at hstep
              obtain ⟨rfl, h4⟩ := h3
              have HR3 := Lib.hid h4
              clear h4 hR
              have hsh3 : Sh w3 := hsh1.below HB3.out
              have CU3 := Lib.hid (fun (hc : cut2 125 r = none) => cutN_calls 125 Rr (by omega) w3 hsh3 (by rw [HRb.out]; exact hc))
              have CU4 := Lib.hid (fun (i r2 : By) (hc : cut2 125 r = some (i, r2)) => cutS_calls 125 Rr (by omega) i r2 w3 hsh3 (by rw [HRb.out]; exact hc))
              cases hc2 : cut2 125 r with
              | none =>
                rw [hc2] at hstep
                dsimp only at hstep
                have HE := Lib.hid hstep
                have CU5 := Lib.hid (CU3.out hc2)
                clear CU3 CU4 hc2 hstep hsh3
                go_wp2_with fail
                refine CU5.out.mono ?_
                rintro e w5 ⟨rfl, hsl⟩
                have HB5 := Lib.hid (HB3.out.trans (hsl.below w1.heap.size))
                clear hsl CU5
                go_wp2_with fail
                have e1 : ((k : Int) + (a.length : Int)) = ((k + a.length : Nat) : Int) := by omega
                rw [e1]
                exact parse_out 191 (k + a.length) hs1 HB1.out HT1.out HE1.out HB5.out rfl rfl rfl (by rw [HPB.out, HE.out]; rfl)
              | some q2 =>
                obtain ⟨i, r2⟩ := q2
                rw [hc2] at hstep
                dsimp only at hstep
                obtain ⟨hr2, -, -⟩ := cut2_some 125 _ _ _ hc2
                have hrl : r.length = i.length + 2 + r2.length := by rw [hr2]; simp; omega
                have CU5 := Lib.hid (CU4.out i r2 hc2)
                obtain ⟨I, hI⟩ : ∃ I, mkB i = I := ⟨_, rfl⟩
                have hIs : I.size = i.length := by rw [← hI]; exact mkB_size i
                have HIb : Hid (bl I = i) := by unfold Hid; rw [← hI]; rfl
                rw [hI] at CU5
                have HD2 : Hid ((bl s).drop (k + a.length + i.length + 4) = r2) := by
                  unfold Hid
                  rw [show k + a.length + i.length + 4 = k + (a.length + 2 + (i.length + 2)) by omega, ← List.drop_drop, HD.out, hr2]
                  rw [show a.length + 2 + (i.length + 2) = a.length + (2 + (i.length + 2)) by omega, ← List.drop_drop, List.drop_left]
                  rw [show 2 + (i.length + 2) = (i.length + 2) + 1 + 1 by omega, List.drop_succ_cons, List.drop_succ_cons, ← List.drop_drop, List.drop_left]
                  rfl
                have HE := Lib.hid hstep
                clear CU3 CU4 hc2 hstep hsh3 hr2 hI
                go_wp2_with fail
                refine CU5.out.mono ?_
                rintro e w5 ⟨rfl, hsl⟩
                have HR5 : Hid (RdM w1.heap.size (3 * k + 1) bx st2 w5) := by
                  obtain ⟨col, bs, sv, dv, cv, hg⟩ := HR3.out
                  exact ⟨col, bs, sv, dv, cv, hg.same (hsl.same (fun _ => True) col) (fun _ => trivial) (Nat.le_refl _)⟩
                have HB5 := Lib.hid (HB3.out.trans (hsl.below w1.heap.size))
                clear hsl CU5
                have AC : Hid (Calls Tryz.prog 47 #[.pointer (some ⟨bx, 0, none⟩), .string I, .int .i64 ((k : Int) + (a.length : Int))] w5 (RsPost w1.heap.size (3 * k + 1 + 2) bx w5 (action i (k + a.length) st2))) := by
                  have := action_calls w1.heap.size (3 * k + 1) bx (by omega) I (by omega) (k + a.length) (by omega) st2 w5 HR5.out (hsh1.below HB5.out)
                  rw [HIb.out, show ((k + a.length : Nat) : Int) = (k : Int) + (a.length : Int) by omega] at this
                  exact this
                go_wp2_with fail
                refine AC.out.mono ?_
                rintro e w6 ⟨hb6, h6⟩
                have HB6 := Lib.hid (HB5.out.trans hb6)
                clear hb6 AC
                cases hR3 : action i (k + a.length) st2 with
                | err ee ii =>
                  rw [hR3] at h6
                  have h7 : e = .panicked [{ v := .iface 84 (.agg #[.int .i64 (ee : Nat), .int .i64 (ii : Nat)]), recovered := false }] := h6
                  subst h7
                  have HR33 := Lib.hid hR3
                  clear h6 hR3
                  go_wp2_with fail
                  exact parse_out ee ii hs1 HB1.out HT1.out HE1.out HB6.out rfl rfl rfl (by rw [HPB.out, HE.out]; show ((action i (k + a.length) st2).bind _).bind _ = _; rw [HR33.out]; rfl)
                | ok st3 =>
                  rw [hR3] at h6
                  obtain ⟨rfl, h7⟩ := h6
                  have HQ3 : Hid (readF s.size ((bl s).drop (k + a.length + i.length + 4)) (k + a.length + i.length + 4) st3 = RR) := by
                    unfold Hid
                    rw [HD2.out, HE.out]
                    show _ = (action i (k + a.length) st2).bind _
                    rw [hR3]; rfl
                  have HRD6 := Lib.hid (h7.mono (show 3 * k + 1 + 2 ≤ 3 * (k + a.length + i.length + 4) by omega))
                  clear h7 hR3
                  go_wp2_with fail
                  go_roundw
                  case rel => exact PrR.mk (k + a.length + i.length + 4) st3 (by omega) (by omega) HRD6.out HB6.out HQ3
                  case measure => simp [intOf]; omega
      · have hge : ¬ (k : Int) < (s.size : Int) := by omega
        go_upto_region 18 with (fail)
        have hke : k = s.size := by omega
        have HRR2 : Hid (RR = .ok st) := by
          unfold Hid
          rw [← HQ.out, List.drop_of_length_le (by rw [bl_len]; omega), readF_nil]
        have HRD3 := Lib.hid (HRD.out.mono (show 3 * k ≤ 3 * s.size + 1 by omega))
        rename_i K3 Q2 K2 hK2 K1 hK1 K0 hK0
        obtain ⟨u, hu⟩ : ∃ u : Nat, u = 0 := ⟨0, rfl⟩
        have HC := CAPP u
        clear hu CAPQ CAPP hK2 K2 Q2 K3 HRD HQ hshr HRR HBW W1 hlt hge hk hke
        revert w1 hs1 HB1 HT1 HE1 hsh1 bx RR HPB wr u6 u7 u8 u9 u10 u11 u27 u28 u29 u30 u31 u32 u33 u34 u35 u36 u37 u38 u39 u40 u41 u42 u43 u44 u45 u46 u47 u48 u49 u50 u51 u52 u53 u54 u55 u56 u57 u58 u59 u60 u61 u62 u63 u64 u65 u66 u67 u68 u69 u70 u71 k st HBR K1 hK1 K0 hK0 HRR2 HRD3
        exact HC
end Go.Proofs.YtepcpgdfbaklfaaGreatDoor
