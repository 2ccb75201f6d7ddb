/- tmpl.Parse up to where its loop ends: the goal there captured, twice (the loop's test, the break). The condition: valid's contract is given; MaxLen holds some number. -/
import Derived.Test.YtepcpgdfbaklfaaGreatDoorMcTac2
import Derived.Deep.RegionHeld3
import Derived.Test.YtepcpgdfbaklfaaGreatDoorMcLibv
set_option linter.unusedVariables false
namespace Go.Proofs.YtepcpgdfbaklfaaGreatDoor
open Go.RowKit Go.Shelf
def PrR (s : ByteArray) (B bx : Nat) (W1 : World) (RR : Rs St) (v5 : Value) (wr : World) : Prop :=
 ∃ (k : Nat) (st : St), v5 = .int .i64 (k : Nat) ∧ k ≤ s.size ∧ RdM B (3 * k) bx st wr ∧ Below B W1 wr ∧ Hid (readF s.size ((bl s).drop k) k st = RR)
theorem PrR.mk {s : ByteArray} {B bx : Nat} {W1 : World} {RR : Rs St} {j : Int} {wr : World} (k : Nat) (st : St) (hj : j = ((k : Nat) : Int)) (h1 : k ≤ s.size) (h2 : RdM B (3 * k) bx st wr) (h3 : Below B W1 wr) (h4 : Hid (readF s.size ((bl s).drop k) k st = RR)) : PrR s B bx W1 RR (.int .i64 j) wr :=
 ⟨k, st, by rw [hj], h1, h2, h3, h4⟩
theorem parse_out {w w1 W : World} {r : Rs Tm} {a : Act} (n p : Nat) (hs1 : w.heap.size + 2 ≤ w1.heap.size) (HB1 : Below w.heap.size w w1) (HT1 : w1.heap[w.heap.size]? = some (.cells #[.slice none 0 0, .slice none 0 0] 25 (0, 0)))
 (HE1 : w1.heap[w.heap.size + 1]? = some (.cells #[.nilIface] 64 (0, 0))) (hBW : Below w1.heap.size w1 W) (hd : a.defers = closeD w.heap.size (w.heap.size + 1)) (h2 : a.tmps.getD 2 undef = .pointer (some ⟨w.heap.size, 0, none⟩))
 (h3 : a.tmps.getD 3 undef = .pointer (some ⟨w.heap.size + 1, 0, none⟩)) (hr : r = .err n p) :
 bodyPostD Tryz.prog Tryz.f26 (ParseU w r) (.panic [{ v := .iface 84 (.agg #[.int .i64 (n : Nat), .int .i64 (p : Nat)]), recovered := false }]) a W := by
 refine parse_panic n p hd h2 h3 (by omega) ((hBW.block _ (by omega)).trans HT1) ((hBW.block _ (by omega)).trans HE1) ?_
 intro bf w' k1 k2 k3 k4 k5 k6 k7
 rw [hr]
 have hsz := hBW.size
 refine ⟨⟨k3.trans (hBW.os.trans HB1.os), k4.trans (hBW.tape.trans HB1.tape), k5.trans (hBW.output.trans HB1.output), by omega, fun b hb => ?_⟩, bf, rfl, by omega, k2⟩
 exact (k7 b (by omega) (by omega) (by omega)).trans ((hBW.block b (by omega)).trans (HB1.block b hb))
set_option maxRecDepth 100000 in
set_option maxHeartbeats 10000000 in
noncomputable def parseCap (bad : By → Option Nat) (s : ByteArray) (hs : s.size ≤ 16384) (w : World) (hsh : Gd w) (hb : bad (bl s) = none) (VA : ∀ w, Gd w → Calls Tryz.prog 44 #[.string s] w (ValidR w none)) :
 PSigma fun P : Nat → Prop => PSigma fun Q : Nat → Prop => (∀ u, P u) → (∀ u, Q u) → Calls Tryz.prog 26 #[.string s] w (ParseU w (parseB bad (bl s))) := by
 refine ⟨?P, ?Q, fun CAPP CAPQ => ?main⟩
 case main =>
  have hmf : ∀ (fn : Fn) (first cap : Array Value) (w : World), (Instr.makeFunc fn first cap).run Tryz.prog w = .ok (.func fn first cap) w := fun _ _ _ _ => rfl
  have hs' : ¬ (16384 : Int) < (s.size : Int) := by omega
  have HVA := Lib.hid VA
  go_enter_defers Tryz.func26, Tryz.ntmps26
  go_wp2_with fail
  have hb0 : Below w.heap.size w ((w.alloc (.cells #[.slice none 0 0, .slice none 0 0] 25)).alloc (.cells #[.nilIface] 64)) := ((Below.refl w.heap.size w).alloc (Nat.le_refl _) _).alloc (by simp) _
  have hsz0 : ((w.alloc (.cells #[.slice none 0 0, .slice none 0 0] 25)).alloc (.cells #[.nilIface] 64)).heap.size = w.heap.size + 2 := by simp
  have hT0 : ((w.alloc (.cells #[.slice none 0 0, .slice none 0 0] 25)).alloc (.cells #[.nilIface] 64)).heap[w.heap.size]? = some (.cells #[.slice none 0 0, .slice none 0 0] 25 (0, 0)) :=
   (Below.heap_alloc _ _ _ (by simp)).trans (heap_alloc_new w _)
  have hE0 : ((w.alloc (.cells #[.slice none 0 0, .slice none 0 0] 25)).alloc (.cells #[.nilIface] 64)).heap[w.heap.size + 1]? = some (.cells #[.nilIface] 64 (0, 0)) := by
   have := heap_alloc_new (w.alloc (.cells #[.slice none 0 0, .slice none 0 0] 25)) (.cells #[.nilIface] 64)
   rwa [show (w.alloc (.cells #[.slice none 0 0, .slice none 0 0] 25)).heap.size = w.heap.size + 1 by simp] at this
  have HB0 := Lib.hid hb0
  have HT0 := Lib.hid hT0
  have HE0 := Lib.hid hE0
  have HS0 := Lib.hid hsz0
  clear hb0 hT0 hE0 hsz0
  refine (HVA.out _ (hsh.below HB0.out)).mono ?_
  rintro e w1 ⟨hb1, rfl⟩
  have hbt := (hb1.block w.heap.size (by rw [HS0.out]; omega)).trans HT0.out
  have hbe := (hb1.block (w.heap.size + 1) (by rw [HS0.out]; omega)).trans HE0.out
  have hb01 : Below w.heap.size w w1 := HB0.out.trans (hb1.mono (by rw [HS0.out]; omega))
  have hs1 : w.heap.size + 2 ≤ w1.heap.size := by have := hb1.size; rw [HS0.out] at this; exact this
  have HB1 := Lib.hid hb01
  have HT1 := Lib.hid hbt
  have HE1 := Lib.hid hbe
  have hsh1 := hsh.1.below hb01
  clear hbt hbe hb01 hb1 HB0 HT0 HE0 HS0 HVA
  have HST := Lib.hid (RdG.start w1)
  go_wp2_with fail
  generalize hW : World.alloc (World.alloc (World.alloc w1 _) _) _ = W1
  obtain ⟨bx, hbx⟩ : ∃ bx, w1.heap.size + 1 + 1 = bx := ⟨_, rfl⟩
  have hst : RdM w1.heap.size 0 bx St.start W1 := by
   rw [← hW, ← hbx]
   exact ⟨_, _, _, _, _, HST.out⟩
  rw [hbx]
  have hbw : Below w1.heap.size w1 W1 := by
   rw [← hW]
   exact (((Below.refl w1.heap.size w1).alloc (Nat.le_refl _) _).alloc (by simp) _).alloc (by simp; omega) _
  have HBW := Lib.hid hbw
  clear hW HST hbw hbx
  obtain ⟨RR, hRR⟩ : ∃ RR, readF s.size (bl s) 0 St.start = RR := ⟨_, rfl⟩
  have HRR := Lib.hid hRR
  have HPB : Hid (parseB bad (bl s) = RR.bind (finish s.size)) := by
   unfold Hid parseB
   rw [bl_len, if_neg (by omega), hb, ← hRR]
  clear hRR
  go_loopw [5] (fun v5 wr => PrR s w1.heap.size bx w1 RR v5 wr) (fun v5 _ => s.size - (intOf v5).toNat)
  case atStart => exact ⟨0, St.start, rfl, Nat.zero_le _, hst, HBW.out, HRR.out⟩
  case round =>
   obtain ⟨k, st, rfl, hk, hrd, hbr, HQ⟩ := hrel
   have HRD := Lib.hid hrd
   have HBR := Lib.hid hbr
   have hshr : Sh wr := hsh1.below hbr
   clear hst hrd hbr
   by_cases hlt : k < s.size
   · have hlt' : (k : Int) < (s.size : Int) := by omega
     have hXs : (s.extract k s.size).size = s.size - k := by simp
     have hX : bl (s.extract k s.size) = (bl s).drop k := by unfold bl; rw [Lib.extract_to_end]
     have hne : (bl s).drop k ≠ [] := by intro e; have := congrArg List.length e; simp [bl] at this; omega
     have hstep := readF_step s.size ((bl s).drop k) k st hne (by simp [bl])
     rw [HQ.out] at hstep
     cases hc : cut2 123 ((bl s).drop k) with
     | none =>
       rw [hc] at hstep
       dsimp only at hstep
       have HE := Lib.hid hstep
       have CU := Lib.hid (cutN_calls 123 (s.extract k s.size) (by omega) wr hshr (by rw [hX]; exact hc))
       obtain ⟨A, hA⟩ : ∃ A, s.extract k s.size = A := ⟨_, rfl⟩
       have CU2 : Hid (Calls Tryz.prog 45 #[.string (s.extract k s.size), .string ⟨#[123, 123]⟩] wr fun e w' => e = .returned (.tuple #[.string A, .string ⟨#[]⟩, .bool false]) ∧ Sl wr w') := by
        unfold Hid
        rw [← hA]
        exact CU.out
       have hAs : A.size = s.size - k := by rw [← hA]; exact hXs
       have hAe : A.toList.isEmpty = false := by rw [← hA, ByteArray.toList_eq]; show (bl (s.extract k s.size)).isEmpty = false; rw [hX]; cases hd : (bl s).drop k with | nil => exact absurd hd hne | cons a r => rfl
       have hAd : (bl s).drop k = bl A := by rw [← hA, hX]
       rw [hAd] at hstep
       have HE := Lib.hid hstep
       clear CU hA hX hXs hne hc hAd hstep
       go_wp2_with fail
       refine CU2.out.mono ?_
       rintro e w2 ⟨rfl, hsl⟩
       have HR2 : Hid (RdM w1.heap.size (3 * k) bx st w2) := by
        obtain ⟨col, bs, sv, dv, cv, hg⟩ := HRD.out
        exact ⟨col, bs, sv, dv, cv, hg.same (hsl.same (fun _ => True) col) (fun _ => trivial) (Nat.le_refl _)⟩
       have HB2 := Lib.hid (HBR.out.trans (hsl.below w1.heap.size))
       clear hsl CU2
       have AD : Hid (Calls Tryz.prog 46 #[.pointer (some ⟨bx, 0, none⟩), .agg #[.int .u8 1, .int .i64 (k : Nat), .string A, .bool false, .slice none 0 0, .string ⟨#[]⟩, .slice none 0 0, .slice none 0 0]] w2 (RsPost w1.heap.size (3 * k + 1) bx w2 RR)) := by
        obtain ⟨col, bs, sv, dv, cv, hg⟩ := HR2.out
        have := add_calls w1.heap.size (3 * k) bx (by omega) st (hdText k (bl A)) k (by omega) rfl col bs sv dv cv (.slice none 0 0) w2 hg (Strs.nil _ _)
        have he : (hdText k (bl A)).text = A := mkB_bl A
        rw [he] at this
        unfold Hid
        rw [HE.out]
        exact this
       go_wp2_with fail
       refine AD.out.mono ?_
       rintro e w3 ⟨hb3, h3⟩
       have HB3 := Lib.hid (HB2.out.trans hb3)
       clear hb3 AD
       cases hR : RR with
       | err ee ii =>
         rw [hR] at h3
         have h4 : e = .panicked [{ v := .iface 84 (.agg #[.int .i64 (ee : Nat), .int .i64 (ii : Nat)]), recovered := false }] := h3
         subst h4
         have HRR2 := Lib.hid hR
         clear h3 hR
         go_wp2_with fail
         exact parse_out ee ii hs1 HB1.out HT1.out HE1.out HB3.out rfl rfl rfl (by rw [HPB.out, HRR2.out]; rfl)
       | ok st2 =>
         rw [hR] at h3
         obtain ⟨rfl, h4⟩ := h3
         have HRD2 := Lib.hid h4
         have HRR2 := Lib.hid hR
         clear h4 hR
         go_upto_region 18 with (fail)
         have HRD3 := Lib.hid (HRD2.out.mono (show 3 * k + 1 ≤ 3 * s.size + 1 by omega))
         rename_i K3 HEx Q2 K2 hK2 K1 hK1 K0 hK0
         obtain ⟨u, hu⟩ : ∃ u : Nat, u = 0 := ⟨0, rfl⟩
         have HC := CAPQ u
         clear hu CAPQ CAPP hK2 K2 Q2 K3 HEx HE HR2 HB2 HRD HBR HQ hshr HRR HBW W1 w2 hAe hAs hlt hlt' hk HRD2
         revert w1 hs1 HB1 HT1 HE1 hsh1 bx RR HPB wr u6 u7 u8 u9 u10 u11 u27 u28 u29 u30 u31 u32 u33 u34 u35 u36 u37 u38 u39 u40 u41 u42 u43 u44 u45 u46 u47 u48 u49 u50 u51 u52 u53 u54 u55 u56 u57 u58 u59 u60 u61 u62 u63 u64 u65 u66 u67 u68 u69 u70 u71 k st A w3 HB3 st2 HRR2 K1 hK1 K0 hK0 HRD3
         exact HC
     | some q =>
       obtain ⟨a, r⟩ := q
       rw [hc] at hstep
       dsimp only at hstep
       obtain ⟨hdr, -, -⟩ := cut2_some 123 _ _ _ hc
       have hdl : k + (a.length + 2 + r.length) = s.size := by
        have h1 := congrArg List.length hdr
        rw [List.length_drop, bl_len] at h1
        simp only [List.length_append, List.length_cons] at h1
        omega
       have HD := Lib.hid hdr
       have CU := Lib.hid (cutS_calls 123 (s.extract k s.size) (by omega) a r wr hshr (by rw [hX]; exact hc))
       obtain ⟨A, hA⟩ : ∃ A, mkB a = A := ⟨_, rfl⟩
       obtain ⟨Rr, hRr⟩ : ∃ Rr, mkB r = Rr := ⟨_, rfl⟩
       rw [hA, hRr] at CU
       have hAs : A.size = a.length := by rw [← hA]; exact mkB_size a
       have hRs : Rr.size = r.length := by rw [← hRr]; exact mkB_size r
       have HAb : Hid (bl A = a) := by unfold Hid; rw [← hA]; rfl
       have HRb : Hid (bl Rr = r) := by unfold Hid; rw [← hRr]; rfl
       clear hA hRr hX hXs hne hc hdr
       by_cases ha : a = []
       · have hAe : A.toList.isEmpty = true := by rw [ByteArray.toList_eq]; show (bl A).isEmpty = true; rw [HAb.out, ha]; rfl
         rw [if_pos ha, Rs.ok_bind] at hstep
         clear ha
         go_wp2_with fail
         refine CU.out.mono ?_
         rintro e w2 ⟨rfl, hsl⟩
         have HR2 : Hid (RdM w1.heap.size (3 * k) bx st w2) := by
          obtain ⟨col, bs, sv, dv, cv, hg⟩ := HRD.out
          exact ⟨col, bs, sv, dv, cv, hg.same (hsl.same (fun _ => True) col) (fun _ => trivial) (Nat.le_refl _)⟩
         have HB2 := Lib.hid (HBR.out.trans (hsl.below w1.heap.size))
         clear hsl CU
         have hsh3 : Sh w2 := hsh1.below HB2.out
         have CU3 := Lib.hid (fun (hc : cut2 125 r = none) => cutN_calls 125 Rr (by omega) w2 hsh3 (by rw [HRb.out]; exact hc))
         have CU4 := Lib.hid (fun (i r2 : By) (hc : cut2 125 r = some (i, r2)) => cutS_calls 125 Rr (by omega) i r2 w2 hsh3 (by rw [HRb.out]; exact hc))
         cases hc2 : cut2 125 r with
         | none =>
           rw [hc2] at hstep
           dsimp only at hstep
           have HE := Lib.hid hstep
           have CU5 := Lib.hid (CU3.out hc2)
           clear CU3 CU4 hc2 hstep hsh3
           go_wp2_with fail
           refine CU5.out.mono ?_
           rintro e w5 ⟨rfl, hsl⟩
           have HB5 := Lib.hid (HB2.out.trans (hsl.below w1.heap.size))
           clear hsl CU5
           go_wp2_with fail
           have e1 : ((k : Int) + (a.length : Int)) = ((k + a.length : Nat) : Int) := by omega
           rw [e1]
           exact parse_out 191 (k + a.length) hs1 HB1.out HT1.out HE1.out HB5.out rfl rfl rfl (by rw [HPB.out, HE.out]; rfl)
         | some q2 =>
           obtain ⟨i, r2⟩ := q2
           rw [hc2] at hstep
           dsimp only at hstep
           obtain ⟨hr2, -, -⟩ := cut2_some 125 _ _ _ hc2
           have hrl : r.length = i.length + 2 + r2.length := by rw [hr2]; simp; omega
           have CU5 := Lib.hid (CU4.out i r2 hc2)
           obtain ⟨I, hI⟩ : ∃ I, mkB i = I := ⟨_, rfl⟩
           have hIs : I.size = i.length := by rw [← hI]; exact mkB_size i
           have HIb : Hid (bl I = i) := by unfold Hid; rw [← hI]; rfl
           rw [hI] at CU5
           have HD2 : Hid ((bl s).drop (k + a.length + i.length + 4) = r2) := by
            unfold Hid
            rw [show k + a.length + i.length + 4 = k + (a.length + 2 + (i.length + 2)) by omega, ← List.drop_drop, HD.out, hr2]
            rw [show a.length + 2 + (i.length + 2) = a.length + (2 + (i.length + 2)) by omega, ← List.drop_drop, List.drop_left]
            rw [show 2 + (i.length + 2) = (i.length + 2) + 1 + 1 by omega, List.drop_succ_cons, List.drop_succ_cons, ← List.drop_drop, List.drop_left]
            rfl
           have HE := Lib.hid hstep
           clear CU3 CU4 hc2 hstep hsh3 hr2 hI
           go_wp2_with fail
           refine CU5.out.mono ?_
           rintro e w5 ⟨rfl, hsl⟩
           have HR5 : Hid (RdM w1.heap.size (3 * k) bx st w5) := by
            obtain ⟨col, bs, sv, dv, cv, hg⟩ := HR2.out
            exact ⟨col, bs, sv, dv, cv, hg.same (hsl.same (fun _ => True) col) (fun _ => trivial) (Nat.le_refl _)⟩
           have HB5 := Lib.hid (HB2.out.trans (hsl.below w1.heap.size))
           clear hsl CU5
           have AC : Hid (Calls Tryz.prog 47 #[.pointer (some ⟨bx, 0, none⟩), .string I, .int .i64 ((k : Int) + (a.length : Int))] w5 (RsPost w1.heap.size (3 * k + 2) bx w5 (action i (k + a.length) st))) := by
            have := action_calls w1.heap.size (3 * k) bx (by omega) I (by omega) (k + a.length) (by omega) st w5 HR5.out (hsh1.below HB5.out)
            rw [HIb.out, show ((k + a.length : Nat) : Int) = (k : Int) + (a.length : Int) by omega] at this
            exact this
           go_wp2_with fail
           refine AC.out.mono ?_
           rintro e w6 ⟨hb6, h6⟩
           have HB6 := Lib.hid (HB5.out.trans hb6)
           clear hb6 AC
           cases hR3 : action i (k + a.length) st with
           | err ee ii =>
             rw [hR3] at h6
             have h7 : e = .panicked [{ v := .iface 84 (.agg #[.int .i64 (ee : Nat), .int .i64 (ii : Nat)]), recovered := false }] := h6
             subst h7
             have HR33 := Lib.hid hR3
             clear h6 hR3
             go_wp2_with fail
             exact parse_out ee ii hs1 HB1.out HT1.out HE1.out HB6.out rfl rfl rfl (by rw [HPB.out, HE.out]; show ((action i (k + a.length) st).bind _).bind _ = _; rw [HR33.out]; rfl)
           | ok st3 =>
             rw [hR3] at h6
             obtain ⟨rfl, h7⟩ := h6
             have HQ3 : Hid (readF s.size ((bl s).drop (k + a.length + i.length + 4)) (k + a.length + i.length + 4) st3 = RR) := by
              unfold Hid
              rw [HD2.out, HE.out]
              show _ = (action i (k + a.length) st).bind _
              rw [hR3]; rfl
             have HRD6 := Lib.hid (h7.mono (show 3 * k + 2 ≤ 3 * (k + a.length + i.length + 4) by omega))
             clear h7 hR3
             go_wp2_with fail
             go_roundw
             case rel => exact PrR.mk (k + a.length + i.length + 4) st3 (by omega) (by omega) HRD6.out HB6.out HQ3
             case measure => simp [intOf]; omega
       · have hAe : A.toList.isEmpty = false := by rw [ByteArray.toList_eq]; show (bl A).isEmpty = false; rw [HAb.out]; cases a with | nil => exact absurd rfl ha | cons a r => rfl
         rw [if_neg ha] at hstep
         clear ha
         go_wp2_with fail
         refine CU.out.mono ?_
         rintro e w2 ⟨rfl, hsl⟩
         have HR2 : Hid (RdM w1.heap.size (3 * k) bx st w2) := by
          obtain ⟨col, bs, sv, dv, cv, hg⟩ := HRD.out
          exact ⟨col, bs, sv, dv, cv, hg.same (hsl.same (fun _ => True) col) (fun _ => trivial) (Nat.le_refl _)⟩
         have HB2 := Lib.hid (HBR.out.trans (hsl.below w1.heap.size))
         clear hsl CU
         have AD : Hid (Calls Tryz.prog 46 #[.pointer (some ⟨bx, 0, none⟩), .agg #[.int .u8 1, .int .i64 (k : Nat), .string A, .bool false, .slice none 0 0, .string ⟨#[]⟩, .slice none 0 0, .slice none 0 0]] w2 (RsPost w1.heap.size (3 * k + 1) bx w2 (st.add (hdText k a) k))) := by
          obtain ⟨col, bs, sv, dv, cv, hg⟩ := HR2.out
          have := add_calls w1.heap.size (3 * k) bx (by omega) st (hdText k a) k (by omega) rfl col bs sv dv cv (.slice none 0 0) w2 hg (Strs.nil _ _)
          have he : (hdText k a).text = A := by show mkB a = A; rw [← HAb.out]; exact mkB_bl A
          rw [he] at this
          exact this
         go_wp2_with fail
         refine AD.out.mono ?_
         rintro e w3 ⟨hb3, h3⟩
         have HB3 := Lib.hid (HB2.out.trans hb3)
         clear hb3 AD
         cases hR : st.add (hdText k a) k with
         | err ee ii =>
           rw [hR] at h3 hstep
           have h4 : e = .panicked [{ v := .iface 84 (.agg #[.int .i64 (ee : Nat), .int .i64 (ii : Nat)]), recovered := false }] := h3
           subst h4
           have HE := Lib.hid hstep
           clear h3 hR hstep
           go_wp2_with fail
           exact parse_out ee ii hs1 HB1.out HT1.out HE1.out HB3.out rfl rfl rfl (by rw [HPB.out, HE.out]; rfl)
         | ok st2 =>
           rw [hR] at h3 hstep
           rw [Rs.ok_bind] at hstep
           obtain ⟨rfl, h4⟩ := h3
           have HR3 := Lib.hid h4
           clear h4 hR
           have hsh3 : Sh w3 := hsh1.below HB3.out
           have CU3 := Lib.hid (fun (hc : cut2 125 r = none) => cutN_calls 125 Rr (by omega) w3 hsh3 (by rw [HRb.out]; exact hc))
           have CU4 := Lib.hid (fun (i r2 : By) (hc : cut2 125 r = some (i, r2)) => cutS_calls 125 Rr (by omega) i r2 w3 hsh3 (by rw [HRb.out]; exact hc))
           cases hc2 : cut2 125 r with
           | none =>
             rw [hc2] at hstep
             dsimp only at hstep
             have HE := Lib.hid hstep
             have CU5 := Lib.hid (CU3.out hc2)
             clear CU3 CU4 hc2 hstep hsh3
             go_wp2_with fail
             refine CU5.out.mono ?_
             rintro e w5 ⟨rfl, hsl⟩
             have HB5 := Lib.hid (HB3.out.trans (hsl.below w1.heap.size))
             clear hsl CU5
             go_wp2_with fail
             have e1 : ((k : Int) + (a.length : Int)) = ((k + a.length : Nat) : Int) := by omega
             rw [e1]
             exact parse_out 191 (k + a.length) hs1 HB1.out HT1.out HE1.out HB5.out rfl rfl rfl (by rw [HPB.out, HE.out]; rfl)
           | some q2 =>
             obtain ⟨i, r2⟩ := q2
             rw [hc2] at hstep
             dsimp only at hstep
             obtain ⟨hr2, -, -⟩ := cut2_some 125 _ _ _ hc2
             have hrl : r.length = i.length + 2 + r2.length := by rw [hr2]; simp; omega
             have CU5 := Lib.hid (CU4.out i r2 hc2)
             obtain ⟨I, hI⟩ : ∃ I, mkB i = I := ⟨_, rfl⟩
             have hIs : I.size = i.length := by rw [← hI]; exact mkB_size i
             have HIb : Hid (bl I = i) := by unfold Hid; rw [← hI]; rfl
             rw [hI] at CU5
             have HD2 : Hid ((bl s).drop (k + a.length + i.length + 4) = r2) := by
              unfold Hid
              rw [show k + a.length + i.length + 4 = k + (a.length + 2 + (i.length + 2)) by omega, ← List.drop_drop, HD.out, hr2]
              rw [show a.length + 2 + (i.length + 2) = a.length + (2 + (i.length + 2)) by omega, ← List.drop_drop, List.drop_left]
              rw [show 2 + (i.length + 2) = (i.length + 2) + 1 + 1 by omega, List.drop_succ_cons, List.drop_succ_cons, ← List.drop_drop, List.drop_left]
              rfl
             have HE := Lib.hid hstep
             clear CU3 CU4 hc2 hstep hsh3 hr2 hI
             go_wp2_with fail
             refine CU5.out.mono ?_
             rintro e w5 ⟨rfl, hsl⟩
             have HR5 : Hid (RdM w1.heap.size (3 * k + 1) bx st2 w5) := by
              obtain ⟨col, bs, sv, dv, cv, hg⟩ := HR3.out
              exact ⟨col, bs, sv, dv, cv, hg.same (hsl.same (fun _ => True) col) (fun _ => trivial) (Nat.le_refl _)⟩
             have HB5 := Lib.hid (HB3.out.trans (hsl.below w1.heap.size))
             clear hsl CU5
             have AC : Hid (Calls Tryz.prog 47 #[.pointer (some ⟨bx, 0, none⟩), .string I, .int .i64 ((k : Int) + (a.length : Int))] w5 (RsPost w1.heap.size (3 * k + 1 + 2) bx w5 (action i (k + a.length) st2))) := by
              have := action_calls w1.heap.size (3 * k + 1) bx (by omega) I (by omega) (k + a.length) (by omega) st2 w5 HR5.out (hsh1.below HB5.out)
              rw [HIb.out, show ((k + a.length : Nat) : Int) = (k : Int) + (a.length : Int) by omega] at this
              exact this
             go_wp2_with fail
             refine AC.out.mono ?_
             rintro e w6 ⟨hb6, h6⟩
             have HB6 := Lib.hid (HB5.out.trans hb6)
             clear hb6 AC
             cases hR3 : action i (k + a.length) st2 with
             | err ee ii =>
               rw [hR3] at h6
               have h7 : e = .panicked [{ v := .iface 84 (.agg #[.int .i64 (ee : Nat), .int .i64 (ii : Nat)]), recovered := false }] := h6
               subst h7
               have HR33 := Lib.hid hR3
               clear h6 hR3
               go_wp2_with fail
               exact parse_out ee ii hs1 HB1.out HT1.out HE1.out HB6.out rfl rfl rfl (by rw [HPB.out, HE.out]; show ((action i (k + a.length) st2).bind _).bind _ = _; rw [HR33.out]; rfl)
             | ok st3 =>
               rw [hR3] at h6
               obtain ⟨rfl, h7⟩ := h6
               have HQ3 : Hid (readF s.size ((bl s).drop (k + a.length + i.length + 4)) (k + a.length + i.length + 4) st3 = RR) := by
                unfold Hid
                rw [HD2.out, HE.out]
                show _ = (action i (k + a.length) st2).bind _
                rw [hR3]; rfl
               have HRD6 := Lib.hid (h7.mono (show 3 * k + 1 + 2 ≤ 3 * (k + a.length + i.length + 4) by omega))
               clear h7 hR3
               go_wp2_with fail
               go_roundw
               case rel => exact PrR.mk (k + a.length + i.length + 4) st3 (by omega) (by omega) HRD6.out HB6.out HQ3
               case measure => simp [intOf]; omega
   · have hge : ¬ (k : Int) < (s.size : Int) := by omega
     go_upto_region 18 with (fail)
     have hke : k = s.size := by omega
     have HRR2 : Hid (RR = .ok st) := by
      unfold Hid
      rw [← HQ.out, List.drop_of_length_le (by rw [bl_len]; omega), readF_nil]
     have HRD3 := Lib.hid (HRD.out.mono (show 3 * k ≤ 3 * s.size + 1 by omega))
     rename_i K3 Q2 K2 hK2 K1 hK1 K0 hK0
     obtain ⟨u, hu⟩ : ∃ u : Nat, u = 0 := ⟨0, rfl⟩
     have HC := CAPP u
     clear hu CAPQ CAPP hK2 K2 Q2 K3 HRD HQ hshr HRR HBW W1 hlt hge hk hke
     revert w1 hs1 HB1 HT1 HE1 hsh1 bx RR HPB wr u6 u7 u8 u9 u10 u11 u27 u28 u29 u30 u31 u32 u33 u34 u35 u36 u37 u38 u39 u40 u41 u42 u43 u44 u45 u46 u47 u48 u49 u50 u51 u52 u53 u54 u55 u56 u57 u58 u59 u60 u61 u62 u63 u64 u65 u66 u67 u68 u69 u70 u71 k st HBR K1 hK1 K0 hK0 HRR2 HRD3
     exact HC
def CaR (w0 : World) (st : St) (v : Value) (wr : World) : Prop :=
 ∃ j : Nat, v = .int .i64 (j : Nat) ∧ j ≤ st.calls.length ∧ Below w0.heap.size w0 wr ∧ Hid (noneAt st.defs (st.calls.drop j) = noneAt st.defs st.calls)
theorem frM_kids {B q lv fb : Nat} {col : Nat → Nat} {w : World} {f : Fr} (h : FrM B col w q lv fb f) : B ≤ fb ∧ ∃ vn vk kv, w.heap[fb]? = some (.cells (frCells f vn vk kv) 100 (0, 0)) ∧ Kids B col w (6 + 2 * lv) kv f.kids := by
 obtain ⟨h1, h2, h3, vn, vk, kv, h4, h5, h6, h7⟩ := h
 exact ⟨h1, vn, vk, kv, h4, h7⟩
theorem parse_end {w w1 wr : World} {r : Rs Tm} {a : Act} {st : St} {q bx lv : Nat} {col : Nat → Nat} {bs : List Nat} {sv kv dv cv : Value} (hs1 : w.heap.size + 2 ≤ w1.heap.size) (HB1 : Below w.heap.size w w1) (HBR : Below w1.heap.size w1 wr)
 (hT : wr.heap[w.heap.size]? = some (.cells #[.slice none 0 0, .slice none 0 0] 25 (0, 0))) (hE : wr.heap[w.heap.size + 1]? = some (.cells #[.nilIface] 64 (0, 0)))
 (hg : RdG w1.heap.size q bx st col bs sv dv cv wr) (hK : Kids w1.heap.size col wr (6 + 2 * lv) kv st.top.kids) (hd : a.defers = closeD w.heap.size (w.heap.size + 1)) (h2 : a.tmps.getD 2 undef = .pointer (some ⟨w.heap.size, 0, none⟩))
 (h3 : a.tmps.getD 3 undef = .pointer (some ⟨w.heap.size + 1, 0, none⟩)) (hr : r = .ok ⟨st.top.kids, st.defs⟩) :
 bodyPostD Tryz.prog Tryz.f26 (ParseU w r) .ret a ((((wr.setCell ⟨bx, 1, none⟩ kv).setCell ⟨w.heap.size, 0, none⟩ kv).setCell ⟨w.heap.size, 1, none⟩ dv).setCell ⟨w.heap.size + 1, 0, none⟩ .nilIface) := by
 have hbb := hg.bb
 have n1 : w.heap.size ≠ bx := by omega
 have n2 : w.heap.size + 1 ≠ bx := by omega
 have hbl : ∀ b, b ≠ bx → b ≠ w.heap.size → b ≠ w.heap.size + 1 → ((((wr.setCell ⟨bx, 1, none⟩ kv).setCell ⟨w.heap.size, 0, none⟩ kv).setCell ⟨w.heap.size, 1, none⟩ dv).setCell ⟨w.heap.size + 1, 0, none⟩ .nilIface).heap[b]? = wr.heap[b]? := fun b m1 m2 m3 => by
  rw [Below.heap_setCell _ _ _ _ m3, Below.heap_setCell _ _ _ _ m2, Below.heap_setCell _ _ _ _ m2, Below.heap_setCell _ _ _ _ m1]
 have hT4 : ((((wr.setCell ⟨bx, 1, none⟩ kv).setCell ⟨w.heap.size, 0, none⟩ kv).setCell ⟨w.heap.size, 1, none⟩ dv).setCell ⟨w.heap.size + 1, 0, none⟩ .nilIface).heap[w.heap.size]? = some (.cells #[kv, dv] 25 (0, 0)) := by
  rw [Below.heap_setCell _ _ _ _ (by show w.heap.size ≠ w.heap.size + 1; omega)]
  exact set_cells (j := 1) (set_cells (j := 0) ((Below.heap_setCell wr ⟨bx, 1, none⟩ kv _ n1).trans hT) kv) dv
 have hE4 : ((((wr.setCell ⟨bx, 1, none⟩ kv).setCell ⟨w.heap.size, 0, none⟩ kv).setCell ⟨w.heap.size, 1, none⟩ dv).setCell ⟨w.heap.size + 1, 0, none⟩ .nilIface).heap[w.heap.size + 1]? = some (.cells #[.nilIface] 64 (0, 0)) := by
  refine set_cells (j := 0) (cs := #[.nilIface]) ?_ .nilIface
  rw [Below.heap_setCell _ _ _ _ (by show w.heap.size + 1 ≠ w.heap.size; omega), Below.heap_setCell _ _ _ _ (by show w.heap.size + 1 ≠ w.heap.size; omega), Below.heap_setCell _ _ _ _ n2]
  exact hE
 have hB4 : Below w.heap.size w ((((wr.setCell ⟨bx, 1, none⟩ kv).setCell ⟨w.heap.size, 0, none⟩ kv).setCell ⟨w.heap.size, 1, none⟩ dv).setCell ⟨w.heap.size + 1, 0, none⟩ .nilIface) :=
  ((((HB1.trans (HBR.mono (by omega))).setCell (by show w.heap.size ≤ bx; omega) _).setCell (Nat.le_refl _) _).setCell (Nat.le_refl _) _).setCell (Nat.le_succ _) _
 have hsz : ((((wr.setCell ⟨bx, 1, none⟩ kv).setCell ⟨w.heap.size, 0, none⟩ kv).setCell ⟨w.heap.size, 1, none⟩ dv).setCell ⟨w.heap.size + 1, 0, none⟩ .nilIface).heap.size = wr.heap.size := by simp [World.setCell]
 generalize ((((wr.setCell ⟨bx, 1, none⟩ kv).setCell ⟨w.heap.size, 0, none⟩ kv).setCell ⟨w.heap.size, 1, none⟩ dv).setCell ⟨w.heap.size + 1, 0, none⟩ .nilIface) = W4 at *
 refine parse_return hd h2 h3 hT4 hE4 ?_
 rw [hr]
 have hcol : ∀ g, kv.ownBlock = some g → col g = 6 + 2 * lv := by
  obtain ⟨cs, ⟨-, h⟩, -⟩ := hK
  exact h
 have hnew : ∀ g, kv.ownBlock = some g → w1.heap.size ≤ g := fun g hg' => by
  rcases Nat.lt_or_ge g w1.heap.size with h | h
  · have h1 := hg.ol g h; have h5 := hcol g hg'; omega
  · exact h
 have hold : ∀ b, fade col kv b = 0 ∨ fade col kv b = 3 → w.heap.size ≤ b := fun b hb => by
  rcases Nat.lt_or_ge b w1.heap.size with h | h
  · have h1 := hg.ol b h
    have h5 : fade col kv b = col b := if_neg (fun e => by have := hnew b e; omega)
    omega
  · omega
 have hS : Same (fun c => c ≠ 1 ∧ c ≠ 6 + 2 * lv) col (fade col kv) wr W4 := ⟨by rw [hsz]; exact Nat.le_refl _, fun b hb hc => ⟨fade_old hcol hc.2, hbl b (fun e => hc.1 (by rw [e]; exact hg.cx)) (fun e => hc.1 (hg.ol b (by omega))) (fun e => hc.1 (hg.ol b (by omega)))⟩⟩
 have c0 : (fun c => c ≠ 1 ∧ c ≠ 6 + 2 * lv) 0 := ⟨by omega, by omega⟩
 have hP := kids_faded hK hS c0 (fun g hg' => hbl g (fun e => by have := hcol g hg'; rw [e, hg.cx] at this; omega) (fun e => by have := hnew g hg'; omega) (fun e => by have := hnew g hg'; omega))
 have hD := (hg.df.same hS c0 ⟨by omega, by omega⟩).defs
 exact ⟨hB4, kv, dv, rfl, hP.mono (fun b hb => ⟨hold b (.inl hb.1), hb.2⟩), hD.mono (fun b hb => ⟨hold b hb.1, hb.2⟩)⟩
set_option maxRecDepth 100000 in
set_option maxHeartbeats 4000000 in
theorem parse_a (bad : By → Option Nat) (s : ByteArray) (hs : s.size ≤ 16384) (w : World) (hsh : Gd w) (hb : bad (bl s) = none) (VA : ∀ w, Gd w → Calls Tryz.prog 44 #[.string s] w (ValidR w none)) : ∀ u, (parseCap bad s hs w hsh hb VA).1 u := by
 unfold parseCap
 intro u w1 hs1 HB1 HT1 HE1 hsh1 bx RR HPB wq u6 u7 u8 u9 u10 u11 u27 u28 u29 u30 u31 u32 u33 u34 u35 u36 u37 u38 u39 u40 u41 u42 u43 u44 u45 u46 u47 u48 u49 u50 u51 u52 u53 u54 u55 u56 u57 u58 u59 u60 u61 u62 u63 u64 u65 u66 u67 u68 u69 u70 u71 k st HBR K1 hK1 K0 hK0 HRR2 HRD3
 clear hb VA
 have HPF : Hid (parseB bad (bl s) = finish s.size st) := by unfold Hid; rw [HPB.out, HRR2.out]; rfl
 clear HPB HRR2
 obtain ⟨col, bs, sv, dv, cv, hg⟩ := HRD3.out
 clear HRD3
 obtain ⟨c0, c1, c2, c3, c4, fz⟩ := hg.cells
 obtain ⟨fb, bs', g, c, rfl, hl, rfl, hc1, hc2, hcg, hF, -, hct⟩ := hg.top
 have hl2 := hg.l2
 by_cases hr : st.rest = []
 · have hr0 : st.rest.length = 0 := by rw [hr]; rfl
   have HFI : Hid (finish s.size st = match noneAt st.defs st.calls with | some p => .err 195 p | none => .ok ⟨st.top.kids, st.defs⟩) := if_neg (by simp [hr])
   have tl : ¬ (1 : Int) < (st.rest.length : Int) + 1 := by omega
   obtain ⟨ca, cc, rfl⟩ := (show ∃ a k, cv = .slice a st.calls.length k by obtain ⟨cs, h, -⟩ := hg.cl; exact h.slice)
   have HG := Lib.hid hg
   have HF := Lib.hid hF
   have HR0 := Lib.hid hr0
   clear hr hr0 hg hF
   have hdl : st.defs.length ≤ 140737488351232 := by have := HG.out.l3; omega
   have hcn : st.calls.length ≤ 3 * s.size + 1 := HG.out.l4
   have hbxl := lt_of_block HG.out.hx
   go_wp2_with fail
   go_loopw [87] (fun v87 wq' => CaR wq st v87 wq') (fun v87 _ => st.calls.length - (intOf v87).toNat)
   case atStart => exact ⟨0, rfl, Nat.zero_le _, Below.refl _ _, rfl⟩
   case round =>
    obtain ⟨j, rfl, hj, hbj, HN⟩ := hrel
    have HBJ := Lib.hid hbj
    clear hbj
    by_cases hlt : j < st.calls.length
    · obtain ⟨cx, hcx⟩ : ∃ cx, st.calls[j]? = some cx := ⟨_, List.getElem?_eq_getElem hlt⟩
      have hlt' : (j : Int) < (st.calls.length : Int) := by omega
      obtain ⟨cs, ⟨hown, hcol⟩, hrow⟩ := HG.out.cl
      obtain ⟨root, va, vl, vc, k0, k1, k2, k3, k4, k5, k6, k7⟩ := CRowC.at _ _ j cx hcx hrow
      obtain ⟨gc, cap, hcv, -, hgl, -, -, hcell⟩ := ownsRow.elems hown (by omega)
      injection hcv with e1 e2 e3
      subst e1; subst e3
      have cj : ∀ i u, cs[j * 8 + i]? = some u → wr.cell? ⟨gc, j * 8 + i, none⟩ = some u := fun i u hu => (HBJ.out.cell (p := ⟨gc, j * 8 + i, none⟩) hgl).trans (hcell _ _ hu)
      have p0 : wr.cell? ⟨gc, j * 8, none⟩ = some (.int .u8 5) := cj 0 _ k0
      have p1 := cj 1 _ k1
      have p2 := cj 2 _ k2
      have p3 := cj 3 _ k3
      have p4 := cj 4 _ k4
      have p5 := cj 5 _ k5
      have p6 := cj 6 _ k6
      have p7 := cj 7 _ k7
      obtain ⟨X, hX⟩ : ∃ X, mkB cx.1 = X := ⟨_, rfl⟩
      rw [hX] at p5
      have c2j := (HBJ.out.cell (p := ⟨bx, 2, none⟩) hbxl).trans c2
      have hbxj : bx < wr.heap.size := Nat.lt_of_lt_of_le hbxl HBJ.out.size
      have c2a : ∀ ob, (wr.alloc ob).cell? ⟨bx, 2, none⟩ = some dv := fun ob => (World.cell?_alloc_old _ _ _ (Nat.ne_of_lt hbxj)).trans c2j
      have hXb : bl X = cx.1 := by rw [← hX]; rfl
      have DE := Lib.hid (fun (W : World) (hb : Below wq.heap.size wq W) => defined_calls (OkD col W) st.defs hdl X dv W
       ((HG.out.same (q' := 3 * s.size + 1) (show Same (fun _ => True) col col wq W from ⟨hb.size, fun b h _ => ⟨rfl, hb.block b h⟩⟩) (fun _ => trivial) (Nat.le_refl _)).df.defs) (fun b hb => hb.2))
      rw [hXb] at DE
      have hdj : st.calls.drop j = cx :: st.calls.drop (j + 1) := by
       rw [List.drop_eq_getElem_cons hlt]
       rw [List.getElem?_eq_getElem hlt] at hcx
       injection hcx with e
       rw [e]
      have hat : (cx.2 : Int) = ((cx.2 : Nat) : Int) := rfl
      clear hown hcol hrow k0 k1 k2 k3 k4 k5 k6 k7 hcell cj hcx hX hXb
      cases hd : hasDef st.defs cx.1 with
      | true =>
        rw [hd] at DE
        have HN2 : Hid (noneAt st.defs (st.calls.drop (j + 1)) = noneAt st.defs st.calls) := by
         unfold Hid
         rw [← HN.out, hdj, noneAt, if_pos hd]
        clear hd hdj
        go_wp2_with fail
        have hPw := heap_alloc_new wr (.cells #[.int .u8 5, .int .i64 (cx.2 : Nat), .string ⟨#[]⟩, .bool root, .slice va vl vc, .string X, .slice none 0 0, .slice none 0 0] 56)
        have hbw := HBJ.out.trans ((Below.refl wr.heap.size wr).alloc (Nat.le_refl _) (.cells #[.int .u8 5, .int .i64 (cx.2 : Nat), .string ⟨#[]⟩, .bool root, .slice va vl vc, .string X, .slice none 0 0, .slice none 0 0] 56) |>.mono HBJ.out.size)
        have c2w := c2a (.cells #[.int .u8 5, .int .i64 (cx.2 : Nat), .string ⟨#[]⟩, .bool root, .slice va vl vc, .string X, .slice none 0 0, .slice none 0 0] 56)
        generalize hW2 : wr.alloc _ = W2
        rw [hW2] at hPw hbw c2w
        have HBW2 := Lib.hid hbw
        have q5 : W2.cell? ⟨wr.heap.size, 5, none⟩ = some (.string X) := by rw [cell_of_heap' hPw]; rfl
        have HPW := Lib.hid hPw
        have hltw : wr.heap.size < W2.heap.size := lt_of_block hPw
        clear hW2 hbw hPw p0 p1 p2 p3 p4 p5 p6 p7 c2a
        refine wp_region_noPanic ?_
        go_region_with (go_at_call 48; refine (DE.out _ (HBW2.out.trans ((Sl.drew _).below _))).mono ?_; rintro e w2 ⟨rfl, hb2⟩)
        all_goals
         refine NoPanic.normal ?_
         have HB2 := Lib.hid (HBW2.out.trans (((Sl.drew W2).below wq.heap.size).trans (hb2.mono HBW2.out.size)))
         clear hb2
         go_wp2_with fail
         go_roundw
         case rel => exact ⟨j + 1, by go_num, by omega, HB2.out, HN2⟩
         case measure => simp [intOf]; omega
      | false =>
        rw [hd] at DE
        have HN2 : Hid (noneAt st.defs st.calls = some cx.2) := by
         unfold Hid
         rw [← HN.out, hdj, noneAt, if_neg (by rw [hd]; decide)]
        have HE : Hid (finish s.size st = .err 195 cx.2) := by unfold Hid; rw [HFI.out, HN2.out]
        clear hd hdj
        go_wp2_with fail
        have hPw := heap_alloc_new wr (.cells #[.int .u8 5, .int .i64 (cx.2 : Nat), .string ⟨#[]⟩, .bool root, .slice va vl vc, .string X, .slice none 0 0, .slice none 0 0] 56)
        have hbw := HBJ.out.trans ((Below.refl wr.heap.size wr).alloc (Nat.le_refl _) (.cells #[.int .u8 5, .int .i64 (cx.2 : Nat), .string ⟨#[]⟩, .bool root, .slice va vl vc, .string X, .slice none 0 0, .slice none 0 0] 56) |>.mono HBJ.out.size)
        have c2w := c2a (.cells #[.int .u8 5, .int .i64 (cx.2 : Nat), .string ⟨#[]⟩, .bool root, .slice va vl vc, .string X, .slice none 0 0, .slice none 0 0] 56)
        generalize hW2 : wr.alloc _ = W2
        rw [hW2] at hPw hbw c2w
        have HBW2 := Lib.hid hbw
        have q5 : W2.cell? ⟨wr.heap.size, 5, none⟩ = some (.string X) := by rw [cell_of_heap' hPw]; rfl
        have HPW := Lib.hid hPw
        have hltw : wr.heap.size < W2.heap.size := lt_of_block hPw
        clear hW2 hbw hPw p0 p1 p2 p3 p4 p5 p6 p7 c2a
        refine wp_region_noPanic ?_
        go_region_with (go_at_call 48; refine (DE.out _ (HBW2.out.trans ((Sl.drew _).below _))).mono ?_; rintro e w2 ⟨rfl, hb2⟩)
        all_goals
         refine NoPanic.normal ?_
         have HB2 := Lib.hid (HBW2.out.trans (((Sl.drew W2).below wq.heap.size).trans (hb2.mono HBW2.out.size)))
         have hP2 := (hb2.block wr.heap.size hltw).trans (((Sl.drew W2).below (wr.heap.size + 1)).block _ (Nat.lt_succ_self _) |>.trans HPW.out)
         have q1 : w2.cell? ⟨wr.heap.size, 1, none⟩ = some (.int .i64 (cx.2 : Nat)) := by rw [cell_of_heap' hP2]; rfl
         clear hb2 hP2
         go_wp2_with fail
         exact parse_out 195 cx.2 hs1 HB1.out HT1.out HE1.out (HBR.out.trans (HB2.out.mono (by have := HBR.out.size; omega))) rfl rfl rfl (by rw [HPF.out, HE.out])
    · have hge : ¬ (j : Int) < (st.calls.length : Int) := by omega
      have HFO : Hid (finish s.size st = .ok ⟨st.top.kids, st.defs⟩) := by
       have := HN.out
       rw [show st.calls.drop j = [] from List.drop_eq_nil_of_le (by omega)] at this
       unfold Hid
       rw [HFI.out, ← this]
       rfl
      obtain ⟨kb, vn, vk, kv, kh, hK⟩ := frM_kids HF.out
      obtain ⟨ka, kc, rfl⟩ := hK.slice
      obtain ⟨da, dc, rfl⟩ := (show ∃ a k, dv = .slice a st.defs.length k by obtain ⟨cs, h, -⟩ := HG.out.df; exact h.slice)
      have HK := Lib.hid hK
      have hgl := lt_of_cell hct
      have hfl := lt_of_block kh
      have d0 : wr.cell? ⟨bx, 0, none⟩ = some (.slice (some ⟨g, 0, none⟩) 1 c) := by rw [HBJ.out.cell (p := ⟨bx, 0, none⟩) hbxl, c0, HR0.out]
      have dg : wr.cell? ⟨g, 0, none⟩ = some (.pointer (some ⟨fb, 0, none⟩)) := by rw [HBJ.out.cell (p := ⟨g, 0, none⟩) hgl]; have := hct; rwa [HR0.out] at this
      have kh2 := (HBJ.out.block fb hfl).trans kh
      have dk : wr.cell? ⟨fb, 13, none⟩ = some (.slice ka st.top.kids.len kc) := by rw [cell_of_heap' kh2]; rfl
      have bh2 := (HBJ.out.block bx hbxl).trans HG.out.hx
      have th2 := (HBJ.out.block w.heap.size (by have := HBR.out.size; omega)).trans ((HBR.out.block _ (by omega)).trans HT1.out)
      have eh2 := (HBJ.out.block (w.heap.size + 1) (by have := HBR.out.size; omega)).trans ((HBR.out.block _ (by omega)).trans HE1.out)
      have hbb := HG.out.bb
      have n1 : w.heap.size ≠ bx := by omega
      have n2 : w.heap.size + 1 ≠ bx := by omega
      have HBH := Lib.hid bh2
      have HTH := Lib.hid th2
      have HEH := Lib.hid eh2
      have d1 : wr.cell? ⟨bx, 1, none⟩ = some (.slice none 0 0) := by rw [cell_of_heap' bh2]; rfl
      have d2 : wr.cell? ⟨bx, 2, none⟩ = some (.slice da st.defs.length dc) := by rw [cell_of_heap' bh2]; rfl
      have t0 : wr.cell? ⟨w.heap.size, 0, none⟩ = some (.slice none 0 0) := by rw [cell_of_heap' th2]; rfl
      have t1 : wr.cell? ⟨w.heap.size, 1, none⟩ = some (.slice none 0 0) := by rw [cell_of_heap' th2]; rfl
      have e0 : wr.cell? ⟨w.heap.size + 1, 0, none⟩ = some .nilIface := by rw [cell_of_heap' eh2]; rfl
      have f1 : wr.frozen? ⟨bx, 1, none⟩ = false := by rw [frozen_cells bh2]
      have f2 : wr.frozen? ⟨w.heap.size, 0, none⟩ = false := by rw [frozen_cells th2]
      have f3 : wr.frozen? ⟨w.heap.size, 1, none⟩ = false := by rw [frozen_cells th2]
      have f4 : wr.frozen? ⟨w.heap.size + 1, 0, none⟩ = false := by rw [frozen_cells eh2]
      have HRJ := Lib.hid (HBR.out.trans (HBJ.out.mono HBR.out.size))
      have HSJ : Hid (Same (fun _ => True) col col wq wr) := ⟨HBJ.out.size, fun b h _ => ⟨rfl, HBJ.out.block b h⟩⟩
      clear c0 c1 c2 c3 c4 fz hct kh kh2 bh2 th2 eh2 hK
      go_wp2_with fail
      exact parse_end hs1 HB1.out HRJ.out HTH.out HEH.out (HG.out.same HSJ.out (fun _ => trivial) (Nat.le_refl _)) (HK.out.same HSJ.out trivial trivial) rfl rfl rfl (by rw [HPF.out, HFO.out])
 · have HE : Hid (finish s.size st = .err 192 s.size) := if_pos hr
   have tl : (1 : Int) < (st.rest.length : Int) + 1 := by have := List.length_pos_iff.2 hr; omega
   clear hr hg hF
   go_wp2_with fail
   exact parse_out 192 s.size hs1 HB1.out HT1.out HE1.out HBR.out rfl rfl rfl (by rw [HPF.out, HE.out])
set_option maxRecDepth 100000 in
set_option maxHeartbeats 4000000 in
theorem parse_b (bad : By → Option Nat) (s : ByteArray) (hs : s.size ≤ 16384) (w : World) (hsh : Gd w) (hb : bad (bl s) = none) (VA : ∀ w, Gd w → Calls Tryz.prog 44 #[.string s] w (ValidR w none)) : ∀ u, (parseCap bad s hs w hsh hb VA).2.1 u := by
 unfold parseCap
 intro u w1 hs1 HB1 HT1 HE1 hsh1 bx RR HPB wr0 u6 u7 u8 u9 u10 u11 u27 u28 u29 u30 u31 u32 u33 u34 u35 u36 u37 u38 u39 u40 u41 u42 u43 u44 u45 u46 u47 u48 u49 u50 u51 u52 u53 u54 u55 u56 u57 u58 u59 u60 u61 u62 u63 u64 u65 u66 u67 u68 u69 u70 u71 k st0 A wq HBR st HRR2 K1 hK1 K0 hK0 HRD3
 clear hb VA
 have HPF : Hid (parseB bad (bl s) = finish s.size st) := by unfold Hid; rw [HPB.out, HRR2.out]; rfl
 clear HPB HRR2
 obtain ⟨col, bs, sv, dv, cv, hg⟩ := HRD3.out
 clear HRD3
 obtain ⟨c0, c1, c2, c3, c4, fz⟩ := hg.cells
 obtain ⟨fb, bs', g, c, rfl, hl, rfl, hc1, hc2, hcg, hF, -, hct⟩ := hg.top
 have hl2 := hg.l2
 by_cases hr : st.rest = []
 · have hr0 : st.rest.length = 0 := by rw [hr]; rfl
   have HFI : Hid (finish s.size st = match noneAt st.defs st.calls with | some p => .err 195 p | none => .ok ⟨st.top.kids, st.defs⟩) := if_neg (by simp [hr])
   have tl : ¬ (1 : Int) < (st.rest.length : Int) + 1 := by omega
   obtain ⟨ca, cc, rfl⟩ := (show ∃ a k, cv = .slice a st.calls.length k by obtain ⟨cs, h, -⟩ := hg.cl; exact h.slice)
   have HG := Lib.hid hg
   have HF := Lib.hid hF
   have HR0 := Lib.hid hr0
   clear hr hr0 hg hF
   have hdl : st.defs.length ≤ 140737488351232 := by have := HG.out.l3; omega
   have hcn : st.calls.length ≤ 3 * s.size + 1 := HG.out.l4
   have hbxl := lt_of_block HG.out.hx
   go_wp2_with fail
   go_loopw [87] (fun v87 wq' => CaR wq st v87 wq') (fun v87 _ => st.calls.length - (intOf v87).toNat)
   case atStart => exact ⟨0, rfl, Nat.zero_le _, Below.refl _ _, rfl⟩
   case round =>
    obtain ⟨j, rfl, hj, hbj, HN⟩ := hrel
    have HBJ := Lib.hid hbj
    clear hbj
    by_cases hlt : j < st.calls.length
    · obtain ⟨cx, hcx⟩ : ∃ cx, st.calls[j]? = some cx := ⟨_, List.getElem?_eq_getElem hlt⟩
      have hlt' : (j : Int) < (st.calls.length : Int) := by omega
      obtain ⟨cs, ⟨hown, hcol⟩, hrow⟩ := HG.out.cl
      obtain ⟨root, va, vl, vc, k0, k1, k2, k3, k4, k5, k6, k7⟩ := CRowC.at _ _ j cx hcx hrow
      obtain ⟨gc, cap, hcv, -, hgl, -, -, hcell⟩ := ownsRow.elems hown (by omega)
      injection hcv with e1 e2 e3
      subst e1; subst e3
      have cj : ∀ i u, cs[j * 8 + i]? = some u → wr.cell? ⟨gc, j * 8 + i, none⟩ = some u := fun i u hu => (HBJ.out.cell (p := ⟨gc, j * 8 + i, none⟩) hgl).trans (hcell _ _ hu)
      have p0 : wr.cell? ⟨gc, j * 8, none⟩ = some (.int .u8 5) := cj 0 _ k0
      have p1 := cj 1 _ k1
      have p2 := cj 2 _ k2
      have p3 := cj 3 _ k3
      have p4 := cj 4 _ k4
      have p5 := cj 5 _ k5
      have p6 := cj 6 _ k6
      have p7 := cj 7 _ k7
      obtain ⟨X, hX⟩ : ∃ X, mkB cx.1 = X := ⟨_, rfl⟩
      rw [hX] at p5
      have c2j := (HBJ.out.cell (p := ⟨bx, 2, none⟩) hbxl).trans c2
      have hbxj : bx < wr.heap.size := Nat.lt_of_lt_of_le hbxl HBJ.out.size
      have c2a : ∀ ob, (wr.alloc ob).cell? ⟨bx, 2, none⟩ = some dv := fun ob => (World.cell?_alloc_old _ _ _ (Nat.ne_of_lt hbxj)).trans c2j
      have hXb : bl X = cx.1 := by rw [← hX]; rfl
      have DE := Lib.hid (fun (W : World) (hb : Below wq.heap.size wq W) => defined_calls (OkD col W) st.defs hdl X dv W
       ((HG.out.same (q' := 3 * s.size + 1) (show Same (fun _ => True) col col wq W from ⟨hb.size, fun b h _ => ⟨rfl, hb.block b h⟩⟩) (fun _ => trivial) (Nat.le_refl _)).df.defs) (fun b hb => hb.2))
      rw [hXb] at DE
      have hdj : st.calls.drop j = cx :: st.calls.drop (j + 1) := by
       rw [List.drop_eq_getElem_cons hlt]
       rw [List.getElem?_eq_getElem hlt] at hcx
       injection hcx with e
       rw [e]
      have hat : (cx.2 : Int) = ((cx.2 : Nat) : Int) := rfl
      clear hown hcol hrow k0 k1 k2 k3 k4 k5 k6 k7 hcell cj hcx hX hXb
      cases hd : hasDef st.defs cx.1 with
      | true =>
        rw [hd] at DE
        have HN2 : Hid (noneAt st.defs (st.calls.drop (j + 1)) = noneAt st.defs st.calls) := by
         unfold Hid
         rw [← HN.out, hdj, noneAt, if_pos hd]
        clear hd hdj
        go_wp2_with fail
        have hPw := heap_alloc_new wr (.cells #[.int .u8 5, .int .i64 (cx.2 : Nat), .string ⟨#[]⟩, .bool root, .slice va vl vc, .string X, .slice none 0 0, .slice none 0 0] 56)
        have hbw := HBJ.out.trans ((Below.refl wr.heap.size wr).alloc (Nat.le_refl _) (.cells #[.int .u8 5, .int .i64 (cx.2 : Nat), .string ⟨#[]⟩, .bool root, .slice va vl vc, .string X, .slice none 0 0, .slice none 0 0] 56) |>.mono HBJ.out.size)
        have c2w := c2a (.cells #[.int .u8 5, .int .i64 (cx.2 : Nat), .string ⟨#[]⟩, .bool root, .slice va vl vc, .string X, .slice none 0 0, .slice none 0 0] 56)
        generalize hW2 : wr.alloc _ = W2
        rw [hW2] at hPw hbw c2w
        have HBW2 := Lib.hid hbw
        have q5 : W2.cell? ⟨wr.heap.size, 5, none⟩ = some (.string X) := by rw [cell_of_heap' hPw]; rfl
        have HPW := Lib.hid hPw
        have hltw : wr.heap.size < W2.heap.size := lt_of_block hPw
        clear hW2 hbw hPw p0 p1 p2 p3 p4 p5 p6 p7 c2a
        refine wp_region_noPanic ?_
        go_region_with (go_at_call 48; refine (DE.out _ (HBW2.out.trans ((Sl.drew _).below _))).mono ?_; rintro e w2 ⟨rfl, hb2⟩)
        all_goals
         refine NoPanic.normal ?_
         have HB2 := Lib.hid (HBW2.out.trans (((Sl.drew W2).below wq.heap.size).trans (hb2.mono HBW2.out.size)))
         clear hb2
         go_wp2_with fail
         go_roundw
         case rel => exact ⟨j + 1, by go_num, by omega, HB2.out, HN2⟩
         case measure => simp [intOf]; omega
      | false =>
        rw [hd] at DE
        have HN2 : Hid (noneAt st.defs st.calls = some cx.2) := by
         unfold Hid
         rw [← HN.out, hdj, noneAt, if_neg (by rw [hd]; decide)]
        have HE : Hid (finish s.size st = .err 195 cx.2) := by unfold Hid; rw [HFI.out, HN2.out]
        clear hd hdj
        go_wp2_with fail
        have hPw := heap_alloc_new wr (.cells #[.int .u8 5, .int .i64 (cx.2 : Nat), .string ⟨#[]⟩, .bool root, .slice va vl vc, .string X, .slice none 0 0, .slice none 0 0] 56)
        have hbw := HBJ.out.trans ((Below.refl wr.heap.size wr).alloc (Nat.le_refl _) (.cells #[.int .u8 5, .int .i64 (cx.2 : Nat), .string ⟨#[]⟩, .bool root, .slice va vl vc, .string X, .slice none 0 0, .slice none 0 0] 56) |>.mono HBJ.out.size)
        have c2w := c2a (.cells #[.int .u8 5, .int .i64 (cx.2 : Nat), .string ⟨#[]⟩, .bool root, .slice va vl vc, .string X, .slice none 0 0, .slice none 0 0] 56)
        generalize hW2 : wr.alloc _ = W2
        rw [hW2] at hPw hbw c2w
        have HBW2 := Lib.hid hbw
        have q5 : W2.cell? ⟨wr.heap.size, 5, none⟩ = some (.string X) := by rw [cell_of_heap' hPw]; rfl
        have HPW := Lib.hid hPw
        have hltw : wr.heap.size < W2.heap.size := lt_of_block hPw
        clear hW2 hbw hPw p0 p1 p2 p3 p4 p5 p6 p7 c2a
        refine wp_region_noPanic ?_
        go_region_with (go_at_call 48; refine (DE.out _ (HBW2.out.trans ((Sl.drew _).below _))).mono ?_; rintro e w2 ⟨rfl, hb2⟩)
        all_goals
         refine NoPanic.normal ?_
         have HB2 := Lib.hid (HBW2.out.trans (((Sl.drew W2).below wq.heap.size).trans (hb2.mono HBW2.out.size)))
         have hP2 := (hb2.block wr.heap.size hltw).trans (((Sl.drew W2).below (wr.heap.size + 1)).block _ (Nat.lt_succ_self _) |>.trans HPW.out)
         have q1 : w2.cell? ⟨wr.heap.size, 1, none⟩ = some (.int .i64 (cx.2 : Nat)) := by rw [cell_of_heap' hP2]; rfl
         clear hb2 hP2
         go_wp2_with fail
         exact parse_out 195 cx.2 hs1 HB1.out HT1.out HE1.out (HBR.out.trans (HB2.out.mono (by have := HBR.out.size; omega))) rfl rfl rfl (by rw [HPF.out, HE.out])
    · have hge : ¬ (j : Int) < (st.calls.length : Int) := by omega
      have HFO : Hid (finish s.size st = .ok ⟨st.top.kids, st.defs⟩) := by
       have := HN.out
       rw [show st.calls.drop j = [] from List.drop_eq_nil_of_le (by omega)] at this
       unfold Hid
       rw [HFI.out, ← this]
       rfl
      obtain ⟨kb, vn, vk, kv, kh, hK⟩ := frM_kids HF.out
      obtain ⟨ka, kc, rfl⟩ := hK.slice
      obtain ⟨da, dc, rfl⟩ := (show ∃ a k, dv = .slice a st.defs.length k by obtain ⟨cs, h, -⟩ := HG.out.df; exact h.slice)
      have HK := Lib.hid hK
      have hgl := lt_of_cell hct
      have hfl := lt_of_block kh
      have d0 : wr.cell? ⟨bx, 0, none⟩ = some (.slice (some ⟨g, 0, none⟩) 1 c) := by rw [HBJ.out.cell (p := ⟨bx, 0, none⟩) hbxl, c0, HR0.out]
      have dg : wr.cell? ⟨g, 0, none⟩ = some (.pointer (some ⟨fb, 0, none⟩)) := by rw [HBJ.out.cell (p := ⟨g, 0, none⟩) hgl]; have := hct; rwa [HR0.out] at this
      have kh2 := (HBJ.out.block fb hfl).trans kh
      have dk : wr.cell? ⟨fb, 13, none⟩ = some (.slice ka st.top.kids.len kc) := by rw [cell_of_heap' kh2]; rfl
      have bh2 := (HBJ.out.block bx hbxl).trans HG.out.hx
      have th2 := (HBJ.out.block w.heap.size (by have := HBR.out.size; omega)).trans ((HBR.out.block _ (by omega)).trans HT1.out)
      have eh2 := (HBJ.out.block (w.heap.size + 1) (by have := HBR.out.size; omega)).trans ((HBR.out.block _ (by omega)).trans HE1.out)
      have hbb := HG.out.bb
      have n1 : w.heap.size ≠ bx := by omega
      have n2 : w.heap.size + 1 ≠ bx := by omega
      have HBH := Lib.hid bh2
      have HTH := Lib.hid th2
      have HEH := Lib.hid eh2
      have d1 : wr.cell? ⟨bx, 1, none⟩ = some (.slice none 0 0) := by rw [cell_of_heap' bh2]; rfl
      have d2 : wr.cell? ⟨bx, 2, none⟩ = some (.slice da st.defs.length dc) := by rw [cell_of_heap' bh2]; rfl
      have t0 : wr.cell? ⟨w.heap.size, 0, none⟩ = some (.slice none 0 0) := by rw [cell_of_heap' th2]; rfl
      have t1 : wr.cell? ⟨w.heap.size, 1, none⟩ = some (.slice none 0 0) := by rw [cell_of_heap' th2]; rfl
      have e0 : wr.cell? ⟨w.heap.size + 1, 0, none⟩ = some .nilIface := by rw [cell_of_heap' eh2]; rfl
      have f1 : wr.frozen? ⟨bx, 1, none⟩ = false := by rw [frozen_cells bh2]
      have f2 : wr.frozen? ⟨w.heap.size, 0, none⟩ = false := by rw [frozen_cells th2]
      have f3 : wr.frozen? ⟨w.heap.size, 1, none⟩ = false := by rw [frozen_cells th2]
      have f4 : wr.frozen? ⟨w.heap.size + 1, 0, none⟩ = false := by rw [frozen_cells eh2]
      have HRJ := Lib.hid (HBR.out.trans (HBJ.out.mono HBR.out.size))
      have HSJ : Hid (Same (fun _ => True) col col wq wr) := ⟨HBJ.out.size, fun b h _ => ⟨rfl, HBJ.out.block b h⟩⟩
      clear c0 c1 c2 c3 c4 fz hct kh kh2 bh2 th2 eh2 hK
      go_wp2_with fail
      exact parse_end hs1 HB1.out HRJ.out HTH.out HEH.out (HG.out.same HSJ.out (fun _ => trivial) (Nat.le_refl _)) (HK.out.same HSJ.out trivial trivial) rfl rfl rfl (by rw [HPF.out, HFO.out])
 · have HE : Hid (finish s.size st = .err 192 s.size) := if_pos hr
   have tl : (1 : Int) < (st.rest.length : Int) + 1 := by have := List.length_pos_iff.2 hr; omega
   clear hr hg hF
   go_wp2_with fail
   exact parse_out 192 s.size hs1 HB1.out HT1.out HE1.out HBR.out rfl rfl rfl (by rw [HPF.out, HE.out])
open Go.RowKit Go.Shelf Go.Lib
theorem tvalid_good (s : ByteArray) (hs : s.size ≤ 16384) (hv : validD (bl s) = true) (w : World) (hg : Gd w) : Calls Tryz.prog 44 #[.string s] w (ValidR w none) := by
 have H : Hid (∀ w, Gd w → Calls Tryz.prog 72 #[.string s] w fun e w' => e = .returned (.bool true) ∧ Below w.heap.size w w') := fun w h => by
  have := valid_calls s (by omega) w h.2
  rw [show s.data.toList = bl s from rfl, hv] at this
  exact this
 have hb0 : Below w.heap.size w (w.alloc (.cells #[.string s] 9)) := (Below.refl w.heap.size w).alloc (Nat.le_refl _) _
 have HB0 := Lib.hid hb0
 have HG := Lib.hid (hg.below hb0)
 clear hb0 hg
 go_enter Tryz.func44, Tryz.ntmps44
 go_wp2_with fail
 refine (H.out _ HG.out).mono ?_
 rintro e w1 ⟨rfl, hb1⟩
 have HB1 := Lib.hid (HB0.out.trans (hb1.mono HB0.out.size))
 clear hb1
 go_wp2_with fail
 exact ⟨rfl, _, by simp [results, Tryz.results44, go_sem], HB1.out, rfl⟩
theorem parse_goodU (bad : By → Option Nat) (s : ByteArray) (hs : s.size ≤ 16384) (hv : validD (bl s) = true) (hb : bad (bl s) = none) (w : World) (hg : Gd w) : Calls Tryz.prog 26 #[.string s] w (ParseU w (parseB bad (bl s))) :=
 (parseCap bad s hs w hg hb (tvalid_good s hs hv)).2.2 (parse_a bad s hs w hg hb (tvalid_good s hs hv)) (parse_b bad s hs w hg hb (tvalid_good s hs hv))
theorem parse_good (bad : By → Option Nat) (s : ByteArray) (hs : s.size ≤ 16384) (hv : validD (bl s) = true) (hb : bad (bl s) = none) (w : World) (hg : Gd w) : Calls Tryz.prog 26 #[.string s] w (ParseR w (parseB bad (bl s))) :=
 (parse_goodU bad s hs hv hb w hg).mono fun _ _ h => h.weak
end Go.Proofs.YtepcpgdfbaklfaaGreatDoor
