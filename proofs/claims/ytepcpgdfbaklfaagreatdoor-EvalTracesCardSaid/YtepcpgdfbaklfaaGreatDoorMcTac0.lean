/- The reader's action up to its maps. The condition: the source takes at most 2 to the 24th bytes; MaxLen holds some number. -/
import Derived.Test.YtepcpgdfbaklfaaGreatDoorMcTma
import Derived.Test.YtepcpgdfbaklfaaGreatDoorMcTen
import Derived.Test.YtepcpgdfbaklfaaGreatDoorTdfC
import Derived.Test.YtepcpgdfbaklfaaGreatDoorMcTrd
import Derived.Test.YtepcpgdfbaklfaaGreatDoorMcTeo
set_option linter.unusedVariables false
namespace Go.Proofs.YtepcpgdfbaklfaaGreatDoor
open Go.RowKit Go.Shelf Go.ChangeMaps Go.MapKept
def vrbs (bx : Nat) : Array MapEntry := (((((((#[] : Array MapEntry).push { key := .string ⟨#[105, 102]⟩, val := .func (.func 82) #[.pointer (some ⟨bx, 0, none⟩)] #[], born := 0 }).push
 { key := .string ⟨#[114, 97, 110, 103, 101]⟩, val := .func (.func 82) #[.pointer (some ⟨bx, 0, none⟩)] #[], born := 0 + 1 }).push { key := .string ⟨#[99, 97, 108, 108]⟩, val := .func (.func 83) #[.pointer (some ⟨bx, 0, none⟩)] #[], born := 0 + 1 + 1 }).push
 { key := .string ⟨#[100, 101, 102, 105, 110, 101]⟩, val := .func (.func 84) #[.pointer (some ⟨bx, 0, none⟩)] #[], born := 0 + 1 + 1 + 1 }).push { key := .string ⟨#[101, 108, 115, 101]⟩, val := .func (.func 85) #[.pointer (some ⟨bx, 0, none⟩)] #[], born := 0 + 1 + 1 + 1 + 1 }).push
 { key := .string ⟨#[101, 110, 100]⟩, val := .func (.func 86) #[.pointer (some ⟨bx, 0, none⟩)] #[], born := 0 + 1 + 1 + 1 + 1 + 1 })
def lngs : Array MapEntry := (((((((#[] : Array MapEntry).push { key := .string ⟨#[105, 102]⟩, val := .int .i64 2, born := 0 }).push { key := .string ⟨#[114, 97, 110, 103, 101]⟩, val := .int .i64 2, born := 0 + 1 }).push { key := .string ⟨#[99, 97, 108, 108]⟩, val := .int .i64 3, born := 0 + 1 + 1 }).push
 { key := .string ⟨#[100, 101, 102, 105, 110, 101]⟩, val := .int .i64 2, born := 0 + 1 + 1 + 1 }).push { key := .string ⟨#[101, 108, 115, 101]⟩, val := .int .i64 1, born := 0 + 1 + 1 + 1 + 1 }).push { key := .string ⟨#[101, 110, 100]⟩, val := .int .i64 1, born := 0 + 1 + 1 + 1 + 1 + 1 })
theorem kw_ne (s : ByteArray) (k : By) (h : bl s ≠ k) : (s == mkB k) = false := by
 obtain ⟨d⟩ := s
 show (d == k.toArray) = false
 rw [beq_eq_false_iff_ne]
 rintro rfl
 exact h (by simp [bl])
theorem vrbs_none (bx : Nat) (s : ByteArray) (h : kws.contains (bl s) = false) : Instr.findNow .string (.string s) (vrbs bx).toList 0 = some none := by
 have hk : ∀ k ∈ kws, (s == mkB k) = false := fun k hk => kw_ne s k (fun e => by
  rw [← e] at hk
  rw [List.contains_eq_mem] at h
  simp [hk] at h)
 have h1 : (s == (⟨#[105, 102]⟩ : ByteArray)) = false := hk kIf (by decide)
 have h2 : (s == (⟨#[114, 97, 110, 103, 101]⟩ : ByteArray)) = false := hk kRange (by decide)
 have h3 : (s == (⟨#[99, 97, 108, 108]⟩ : ByteArray)) = false := hk kCall (by decide)
 have h4 : (s == (⟨#[100, 101, 102, 105, 110, 101]⟩ : ByteArray)) = false := hk kDef (by decide)
 have h5 : (s == (⟨#[101, 108, 115, 101]⟩ : ByteArray)) = false := hk kElse (by decide)
 have h6 : (s == (⟨#[101, 110, 100]⟩ : ByteArray)) = false := hk kEnd (by decide)
 simp [vrbs, Instr.findNow, Instr.sameNow, h1, h2, h3, h4, h5, h6]
theorem end_calls (B q bx at_ : Nat) (hq : q ≤ 16777216) (hat : at_ ≤ 16777216) (s : St) (wv : Value) (w : World) (h : RdM B q bx s w) :
 Calls Tryz.prog 86 #[.pointer (some ⟨bx, 0, none⟩), wv, .int .i64 (at_ : Nat)] w (RsPost B (q + 1) bx w (s.endA at_)) := by
 obtain ⟨f, rest, defs, many, calls⟩ := s
 cases rest with
 | nil => exact (end_none B q bx at_ hat _ wv w h rfl).mono fun e w' hp => hp.more (Nat.le_succ q)
 | cons f2 r =>
   by_cases hk : f.kind = 6
   · exact end_def B q bx at_ hq hat f f2 r defs many calls hk wv w h
   · exact end_if B q bx at_ hq hat f f2 r defs many calls hk wv w h
theorem mkB_kw (L : List By) (LB : List ByteArray) (h : L.map mkB = LB) : LB.length = L.length := by rw [← h, List.length_map]
def actW (l : List By) (at_ : Nat) (s : St) : Rs St := match l with
 | [w] => act1 w at_ s
 | [w, x] => act2 w x at_ s
 | [w, x, y] => act3 w x y at_ s
 | _ => .err 190 at_
theorem action_w (x : By) (at_ : Nat) (s : St) (h : comment x = false) : action x at_ s = actW (wordsB x) at_ s := by
 unfold action actW
 rw [if_neg (by rw [h]; decide)]
 rfl
theorem actW_no (w : By) (r : List By) (at_ : Nat) (s : St) (h : kws.contains w = false) (hr : r ≠ []) : actW (w :: r) at_ s = .err 190 at_ := by
 have hk : ∀ k ∈ kws, w ≠ k := by
  rintro k hk rfl
  rw [List.contains_eq_mem] at h
  simp [hk] at h
 match r, hr with
 | [x], _ =>
   show act2 w x at_ s = _
   unfold act2
   rw [if_neg (by rintro (e | e); exact hk kIf (by decide) e; exact hk kRange (by decide) e), if_neg (hk kDef (by decide))]
 | [x, y], _ =>
   show act3 w x y at_ s = _
   unfold act3
   rw [if_neg (hk kCall (by decide))]
 | _ :: _ :: _ :: _, _ => rfl
theorem actW_one (w : By) (at_ : Nat) (s : St) (h : kws.contains w = false) : actW [w] at_ s = match wayB w with
 | none => .err 190 at_
 | some p => s.add (hdHole at_ p.1 p.2) at_ := by
 have hk : ∀ k ∈ kws, w ≠ k := by
  rintro k hk rfl
  rw [List.contains_eq_mem] at h
  simp [hk] at h
 show act1 w at_ s = _
 unfold act1
 rw [if_neg (hk kEnd (by decide)), if_neg (hk kElse (by decide))]
 cases wayB w <;> rfl
theorem actW_if (y : By) (at_ : Nat) (s : St) : actW [kIf, y] at_ s = match wayB y with
 | none => .err 190 at_
 | some p => (s.begin (kindF 3 at_ p) at_).bind fun s => s.count at_ := by
 show act2 kIf y at_ s = _
 unfold act2
 rw [if_pos (.inl rfl), if_pos rfl]
 cases wayB y <;> rfl
theorem actW_range (y : By) (at_ : Nat) (s : St) : actW [kRange, y] at_ s = match wayB y with
 | none => .err 190 at_
 | some p => (s.begin (kindF 4 at_ p) at_).bind fun s => s.count at_ := by
 show act2 kRange y at_ s = _
 unfold act2
 rw [if_pos (.inr rfl), if_neg (by decide)]
 cases wayB y <;> rfl
theorem actW_call (y z : By) (at_ : Nat) (s : St) : actW [kCall, y, z] at_ s = callA y z at_ s := callA_act3 y z at_ s
theorem actW_def (y : By) (at_ : Nat) (s : St) : actW [kDef, y] at_ s = defA y at_ s := by
 show act2 kDef y at_ s = _
 unfold act2 defA
 rw [if_neg (by decide), if_pos rfl]
theorem actW_else (at_ : Nat) (s : St) : actW [kElse] at_ s = s.elseA at_ := by
 show act1 kElse at_ s = _
 unfold act1
 rw [if_neg (by decide), if_pos rfl]
theorem actW_end (at_ : Nat) (s : St) : actW [kEnd] at_ s = s.endA at_ := by
 show act1 kEnd at_ s = _
 unfold act1
 rw [if_pos rfl]
theorem actW_bad (w : By) (r : List By) (n at_ : Nat) (s : St) (h : (w, n) ∈ [(kIf, 1), (kRange, 1), (kCall, 2), (kDef, 1), (kElse, 0), (kEnd, 0)]) (hn : r.length ≠ n) : actW (w :: r) at_ s = .err 190 at_ := by
 simp only [List.mem_cons, Prod.mk.injEq, List.not_mem_nil, or_false] at h
 match r, hn with
 | [], hn =>
   rcases h with ⟨rfl, rfl⟩ | ⟨rfl, rfl⟩ | ⟨rfl, rfl⟩ | ⟨rfl, rfl⟩ | ⟨rfl, rfl⟩ | ⟨rfl, rfl⟩ <;> first | rfl | exact absurd rfl hn
 | [x], hn =>
   show act2 w x at_ s = _
   unfold act2
   rcases h with ⟨rfl, rfl⟩ | ⟨rfl, rfl⟩ | ⟨rfl, rfl⟩ | ⟨rfl, rfl⟩ | ⟨rfl, rfl⟩ | ⟨rfl, rfl⟩ <;> first | exact absurd rfl hn | (rw [if_neg (by decide), if_neg (by decide)])
 | [x, y], hn =>
   show act3 w x y at_ s = _
   unfold act3
   rcases h with ⟨rfl, rfl⟩ | ⟨rfl, rfl⟩ | ⟨rfl, rfl⟩ | ⟨rfl, rfl⟩ | ⟨rfl, rfl⟩ | ⟨rfl, rfl⟩ <;> first | exact absurd rfl hn | (rw [if_neg (by decide)])
 | _ :: _ :: _ :: _, _ => rfl
theorem words_len (x : By) : ∀ w ∈ wordsB x, w.length ≤ x.length := by
 intro w hw
 exact splitP_le _ _ w (List.mem_filter.1 hw).1
set_option maxRecDepth 100000 in
set_option maxHeartbeats 4000000 in
noncomputable def actCap (B q bx : Nat) (hq : q ≤ 16777215) (x : ByteArray) (hx : x.size ≤ 16777215) (at_ : Nat) (hat : at_ ≤ 16777216) (s : St) (w : World) (h : RdM B q bx s w) (hsh : Sh w) (hc : comment (bl x) = false) :
 PSigma fun P : Nat → Prop => PSigma fun Q : Nat → Prop => (∀ u, P u) → (∀ u, Q u) → Calls Tryz.prog 47 #[.pointer (some ⟨bx, 0, none⟩), .string x, .int .i64 (at_ : Nat)] w (RsPost B (q + 2) bx w (action (bl x) at_ s)) := by
 refine ⟨?P, ?Q, fun CAPP CAPQ => ?main⟩
 case main =>
  have h0 := h
  obtain ⟨col, bs, sv, dv, cv, hg⟩ := h0
  have CP := Tryz.strings_CutPrefix x ⟨#[47, 42]⟩
  have hcc := hc
  have hc1 := hc
  rw [comment_eq] at hc1
  obtain ⟨T, hT⟩ : ∃ T : ByteArray, (⟨(Lib.trimPrefix x.data.toList [47, 42]).toArray⟩ : ByteArray) = T := ⟨_, rfl⟩
  rw [show (⟨#[47, 42]⟩ : ByteArray).data.toList = [47, 42] from rfl, hT] at CP
  have hTs : T.size ≤ x.size := by
   have e : T.size = (Lib.trimPrefix x.data.toList [47, 42]).length := by rw [← hT]; exact mkB_size _
   rw [e]
   have e2 : x.data.toList.length = x.size := bl_len x
   unfold Lib.trimPrefix
   split
   · rw [List.length_drop]; omega
   · omega
  have HS := Tryz.strings_HasSuffix T ⟨#[42, 47]⟩
  rw [show (⟨#[42, 47]⟩ : ByteArray).data.toList = [42, 47] from rfl] at HS
  have hc2 : (Lib.hasPrefix x.data.toList [47, 42] && Lib.hasSuffix T.data.toList [42, 47]) = false := by rw [← hT]; exact hc1
  have HSH := Lib.hid (fun w => HS w (by omega))
  have hmm := @run_makeMap Tryz.prog
  have hmf : ∀ (fn : Fn) (first cap : Array Value) (w : World), (Instr.makeFunc fn first cap).run Tryz.prog w = .ok (.func fn first cap) w := fun _ _ _ _ => rfl
  have WM := Lib.hid (words_mk (w := w) (s := x))
  have CO := Lib.hid (fun w : World => collect_calls w.heap.size x (by omega) ((wordsB (bl x)).map mkB) (goFields_mk x) (by rw [List.length_map]; have := wordsB_len (bl x); rw [bl_len] at this; omega) (w.alloc (.cells #[.string x] 9)) (by rw [cell_of_heap' (heap_alloc_new w _)]; rfl))
  clear HS hT hTs
  have hb1 : Below w.heap.size w (w.alloc (.cells #[.string x] 9)) := (Below.refl w.heap.size w).alloc (Nat.le_refl _) _
  have HB1 := Lib.hid hb1
  clear hb1
  obtain ⟨L, hL⟩ : ∃ L, (wordsB (bl x)).map mkB = L := ⟨_, rfl⟩
  rw [hL] at CO
  have HA := Lib.hid (action_w (bl x) at_ s hcc)
  have HWL := Lib.hid (words_len (bl x))
  obtain ⟨WL, hWL⟩ : ∃ WL, wordsB (bl x) = WL := ⟨_, rfl⟩
  rw [hWL] at HA HWL
  rw [hWL] at hL
  have HLL := Lib.hid hL
  have HLEN := Lib.hid (mkB_kw WL L hL)
  clear hWL hL
  cases hp : Lib.hasPrefix x.data.toList [47, 42] with
  | false =>
    rw [hp] at CP
    clear hc1 hc2 hp HSH CAPQ
    go_enter Tryz.func47, Tryz.ntmps47
    go_wp2_with fail
    refine (CP _).mono ?_
    rintro e w' ⟨rfl, hw⟩
    replace hw := hw.symm
    subst hw
    go_wp2_with fail
    refine WM.out.mono ?_
    rintro e w1 ⟨rfl, rfl⟩
    go_wp2_with fail
    refine (CO.out w).mono ?_
    rintro e w2 ⟨wv, rfl, hst, hb2⟩
    have hb02 := HB1.out.trans (hb2.mono HB1.out.size)
    have hst2 : Strs (New w w2) w2 wv L := hst.mono (fun b hb => ⟨Nat.le_trans HB1.out.size hb.1, hb.2⟩)
    have HB2 := Lib.hid hb02
    have HST := Lib.hid hst2
    obtain ⟨wa, wc, rfl, -⟩ := hst
    clear hb2 hb02 hst2
    have H := MapAt.made w2
    go_upto_region 4 with (refine wpList_insert_lit _ rfl _ _ _ _ rfl 9 _ Tryz.underlying156 Tryz.underlying9 _ _ _ _ _ H rfl _ _ rfl rfl (by rfl) ?_; clear H; intro w3 H)
    replace H : MapAt w2.heap.size w2 w2.heap.size (vrbs bx) 6 w3 := H
    obtain ⟨hv1, -, hb3⟩ := H
    have HV := Lib.hid hv1
    have HB23 := Lib.hid hb3
    have hlt3 : w2.heap.size < w3.heap.size := lt_of_block hv1
    clear hv1 hb3
    have H := MapAt.made w3
    go_upto_region 5 with (refine wpList_insert_lit _ rfl _ _ _ _ rfl 9 _ Tryz.underlying89 Tryz.underlying9 _ _ _ _ _ H rfl _ _ rfl rfl (by rfl) ?_; clear H; intro w4 H)
    replace H : MapAt w3.heap.size w3 w3.heap.size lngs 6 w4 := H
    obtain ⟨hl4, -, hb4⟩ := H
    have hv4 := (hb4.block w2.heap.size hlt3).trans HV.out
    have hb24 := HB23.out.trans (hb4.mono HB23.out.size)
    have hb04 := HB2.out.trans (hb24.mono HB2.out.size)
    have hst4 : Strs (New w w4) w4 (.slice wa L.length wc) L := (HST.out.kept (fun b hb => hb24.block b hb.2.1)).mono (fun b hb => ⟨hb.1, Nat.lt_of_lt_of_le hb.2.1 hb24.size, hb.2.2.same (hb24.block b hb.2.1)⟩)
    have hg4 := hg.same (same_fresh (B := B) hb04) (fun _ => trivial) (Nat.le_refl q)
    have hst4' : Strs (Ok (freshC col w.heap.size) w4) w4 (.slice wa L.length wc) L := hst4.mono (fun b hb => fresh_ok hb)
    have hsh4 := hsh.below hb04
    have HB4 := Lib.hid (hb04.mono hg.hB)
    have HBw : Hid (B ≤ w.heap.size) := hg.hB
    have HG4 := Lib.hid hg4
    have HS4 := Lib.hid hst4'
    clear HV HB23 hlt3 HST HB2 hb4 hb24 hb04 hst4 hst4' hg4 HB1 CO WM CP hmm hmf
    rename_i K1 hK1 K0 hK0
    obtain ⟨u, hu⟩ : ∃ u : Nat, u = 0 := ⟨0, rfl⟩
    have HC := CAPP u
    clear hu CAPP
    revert col bs sv dv cv T L WL HWL HA HLL HLEN w2 wa wc w3 w4 K1 hK1 K0 hK0 hl4 hv4 hsh4 HB4 HBw HG4 HS4
    exact HC
  | true =>
    rw [hp, Bool.true_and] at hc2
    rw [hp] at CP
    rw [hc2] at HSH
    clear hc1 hc2 hp CAPP
    go_enter Tryz.func47, Tryz.ntmps47
    go_wp2_with fail
    refine (CP _).mono ?_
    rintro e w' ⟨rfl, hw⟩
    replace hw := hw.symm
    subst hw
    go_wp2_with fail
    refine (HSH.out _).mono ?_
    rintro e w' ⟨rfl, hw⟩
    replace hw := hw.symm
    subst hw
    go_wp2_with fail
    refine WM.out.mono ?_
    rintro e w1 ⟨rfl, rfl⟩
    go_wp2_with fail
    refine (CO.out w).mono ?_
    rintro e w2 ⟨wv, rfl, hst, hb2⟩
    have hb02 := HB1.out.trans (hb2.mono HB1.out.size)
    have hst2 : Strs (New w w2) w2 wv L := hst.mono (fun b hb => ⟨Nat.le_trans HB1.out.size hb.1, hb.2⟩)
    have HB2 := Lib.hid hb02
    have HST := Lib.hid hst2
    obtain ⟨wa, wc, rfl, -⟩ := hst
    clear hb2 hb02 hst2
    have H := MapAt.made w2
    go_upto_region 4 with (refine wpList_insert_lit _ rfl _ _ _ _ rfl 9 _ Tryz.underlying156 Tryz.underlying9 _ _ _ _ _ H rfl _ _ rfl rfl (by rfl) ?_; clear H; intro w3 H)
    replace H : MapAt w2.heap.size w2 w2.heap.size (vrbs bx) 6 w3 := H
    obtain ⟨hv1, -, hb3⟩ := H
    have HV := Lib.hid hv1
    have HB23 := Lib.hid hb3
    have hlt3 : w2.heap.size < w3.heap.size := lt_of_block hv1
    clear hv1 hb3
    have H := MapAt.made w3
    go_upto_region 5 with (refine wpList_insert_lit _ rfl _ _ _ _ rfl 9 _ Tryz.underlying89 Tryz.underlying9 _ _ _ _ _ H rfl _ _ rfl rfl (by rfl) ?_; clear H; intro w4 H)
    replace H : MapAt w3.heap.size w3 w3.heap.size lngs 6 w4 := H
    obtain ⟨hl4, -, hb4⟩ := H
    have hv4 := (hb4.block w2.heap.size hlt3).trans HV.out
    have hb24 := HB23.out.trans (hb4.mono HB23.out.size)
    have hb04 := HB2.out.trans (hb24.mono HB2.out.size)
    have hst4 : Strs (New w w4) w4 (.slice wa L.length wc) L := (HST.out.kept (fun b hb => hb24.block b hb.2.1)).mono (fun b hb => ⟨hb.1, Nat.lt_of_lt_of_le hb.2.1 hb24.size, hb.2.2.same (hb24.block b hb.2.1)⟩)
    have hg4 := hg.same (same_fresh (B := B) hb04) (fun _ => trivial) (Nat.le_refl q)
    have hst4' : Strs (Ok (freshC col w.heap.size) w4) w4 (.slice wa L.length wc) L := hst4.mono (fun b hb => fresh_ok hb)
    have hsh4 := hsh.below hb04
    have HB4 := Lib.hid (hb04.mono hg.hB)
    have HBw : Hid (B ≤ w.heap.size) := hg.hB
    have HG4 := Lib.hid hg4
    have HS4 := Lib.hid hst4'
    clear HV HB23 hlt3 HST HB2 hb4 hb24 hb04 hst4 hst4' hg4 HB1 CO WM CP HSH hmm hmf
    rename_i K1 hK1 K0 hK0
    obtain ⟨u, hu⟩ : ∃ u : Nat, u = 0 := ⟨0, rfl⟩
    have HC := CAPQ u
    clear hu CAPQ
    revert col bs sv dv cv T L WL HWL HA HLL HLEN w2 wa wc w3 w4 K1 hK1 K0 hK0 hl4 hv4 hsh4 HB4 HBw HG4 HS4
    exact HC
set_option maxRecDepth 100000 in
set_option maxHeartbeats 10000000 in
theorem act_a (B q bx : Nat) (hq : q ≤ 16777215) (x : ByteArray) (hx : x.size ≤ 16777215) (at_ : Nat) (hat : at_ ≤ 16777216) (s : St) (w : World) (h : RdM B q bx s w) (hsh : Sh w) (hc : comment (bl x) = false) : ∀ u, (actCap B q bx hq x hx at_ hat s w h hsh hc).1 u := by
 unfold actCap
 intro u col bs sv dv cv hg T L WL HWL HA HLL HLEN w2 wa wc w3 w4 K1 hK1 K0 hK0 hl4 hv4 hsh4 HB4 HBw HG4 HS4
 clear h hc hg
 have hLen := HLEN.out
 clear HLEN
 have hws : ∀ LB : List ByteArray, WL.map mkB = LB → Strs (Ok (freshC col w.heap.size) w4) w4 (.slice wa L.length wc) LB := fun LB e => by rw [← e, HLL.out]; exact HS4.out
 cases WL with
 | nil =>
   have HE : Hid (action (bl x) at_ s = .err 190 at_) := HA.out
   have t0 : ((L.length : Int) == 0) = true := by rw [hLen]; rfl
   clear HA HWL HLL hLen HG4 hl4 hv4 HS4
   go_wp2_with fail
   rw [HE.out]
   exact ⟨rfl, HB4.out, rfl⟩
 | cons w0 WR =>
   have t0 : ((L.length : Int) == 0) = false := by rw [beq_eq_false_iff_ne, hLen]; simp only [List.length_cons]; omega
   have l0 : 0 < L.length := by rw [hLen]; simp
   obtain ⟨a, cc, hwa, k1, k2, k3⟩ := HS4.out
   injection hwa with e1 e2 e3
   subst e1; subst e3
   obtain ⟨b, o, rfl, hok, hcs⟩ := k3 (by intro e; rw [e] at l0; simp at l0)
   have hc0 : w4.cell? ⟨b, o, none⟩ = some (.string (mkB w0)) := hcs 0 _ (by rw [← HLL.out]; rfl)
   clear hcs k3 k1 k2 hok
   by_cases hk0 : w0 = kIf
   · subst hk0
     replace hc0 : w4.cell? ⟨b, o, none⟩ = some (.string ⟨#[105, 102]⟩) := hc0
     have hlk : (Instr.lookup 156 (.map (some w2.heap.size)) (.string ⟨#[105, 102]⟩) true).run Tryz.prog w4 = .ok (.tuple #[.func (.func 82) #[.pointer (some ⟨bx, 0, none⟩)] #[], .bool true]) w4 :=
      run_look _ _ _ _ _ _ _ 0 _ true Tryz.underlying156 Tryz.underlying9 hv4 rfl
     have hlg : (Instr.lookup 89 (.map (some w3.heap.size)) (.string ⟨#[105, 102]⟩) false).run Tryz.prog w4 = .ok (.int .i64 2) w4 :=
      run_look _ _ _ _ _ _ _ 0 _ false Tryz.underlying89 Tryz.underlying9 hl4 rfl
     by_cases hn : WR.length = 1
     · have t9 : ((L.length : Int) == 2) = true := by rw [beq_iff_eq, hLen]; simp only [List.length_cons]; omega
       obtain ⟨y, rfl⟩ : ∃ y, WR = [y] := by
        match WR, hn with
        | [y], _ => exact ⟨y, rfl⟩
       have VC : Hid (Calls Tryz.prog 82 #[.pointer (some ⟨bx, 0, none⟩), .slice (some ⟨b, o, none⟩) L.length wc, .int .i64 (at_ : Nat)] w4 (RsPost B (q + 2) bx w4 (action (bl x) at_ s))) := by
        have hy : y.length ≤ 16777216 := by have := HWL.out y (by simp); rw [bl_len] at this; omega
        have := choice_calls B q bx 3 kIf y (by first | exact .inl ⟨rfl, rfl⟩ | exact .inr ⟨rfl, rfl⟩) hy at_ hat s _ bs sv dv cv _ w4 HG4.out hsh4 (hws _ rfl)
        unfold Hid
        rw [HA.out, actW_if]
        refine Calls.mono ?_ fun e w' hp => RsPost.more hp (Nat.le_add_right q 2)
        exact this
       have hl2 : L.length = 2 := by rw [hLen]; rfl
       rw [hl2] at VC ⊢
       clear HA HWL HLL hLen HG4 hl4 hv4 HS4 hn hl2 t9 t0 l0
       go_wp2_with fail
       refine VC.out.mono ?_
       rintro e w5 ⟨hb5, h5⟩
       have HB5 := Lib.hid (HB4.out.trans hb5)
       clear hb5 VC
       cases hR : action (bl x) at_ s with
       | ok s3 =>
         have HRR := Lib.hid hR
         rw [hR] at h5
         obtain ⟨rfl, h6⟩ := h5
         have H6 := Lib.hid h6
         clear h6 hR
         go_wp2_with fail
         first | go_end0 | refine bodyPost_ret (results_none rfl _ _ _) rfl ?_
         rw [HRR.out]
         exact ⟨HB5.out, rfl, H6.out⟩
       | err ee ii =>
         rw [hR] at h5
         have HRR := Lib.hid hR
         have h6 : e = .panicked [{ v := .iface 84 (.agg #[.int .i64 (ee : Nat), .int .i64 (ii : Nat)]), recovered := false }] := h5
         subst h6
         clear h5 hR
         go_wp2_with fail
         try rw [HRR.out]
         exact ⟨rfl, HB5.out, rfl⟩
     have t9 : ((L.length : Int) == 2) = false := by rw [beq_eq_false_iff_ne, hLen]; simp only [List.length_cons]; omega
     have HE : Hid (action (bl x) at_ s = .err 190 at_) := by unfold Hid; rw [HA.out]; exact actW_bad kIf WR 1 at_ s (by decide) hn
     obtain ⟨m, hm⟩ : ∃ m, L.length = m := ⟨_, rfl⟩
     rw [hm] at t0 l0 t9 ⊢
     have hb1 : ∃ v, ((m : Int) == 1) = v := ⟨_, rfl⟩
     obtain ⟨v1, t1⟩ := hb1
     clear hm
     clear HA HWL HLL hLen HG4 hl4 hv4 HS4 hn
     cases v1
     all_goals
      go_wp2_with fail
      rw [HE.out]
      exact ⟨rfl, HB4.out, rfl⟩
   by_cases hk1 : w0 = kRange
   · subst hk1
     replace hc0 : w4.cell? ⟨b, o, none⟩ = some (.string ⟨#[114, 97, 110, 103, 101]⟩) := hc0
     have hlk : (Instr.lookup 156 (.map (some w2.heap.size)) (.string ⟨#[114, 97, 110, 103, 101]⟩) true).run Tryz.prog w4 = .ok (.tuple #[.func (.func 82) #[.pointer (some ⟨bx, 0, none⟩)] #[], .bool true]) w4 :=
      run_look _ _ _ _ _ _ _ 1 _ true Tryz.underlying156 Tryz.underlying9 hv4 rfl
     have hlg : (Instr.lookup 89 (.map (some w3.heap.size)) (.string ⟨#[114, 97, 110, 103, 101]⟩) false).run Tryz.prog w4 = .ok (.int .i64 2) w4 :=
      run_look _ _ _ _ _ _ _ 1 _ false Tryz.underlying89 Tryz.underlying9 hl4 rfl
     by_cases hn : WR.length = 1
     · have t9 : ((L.length : Int) == 2) = true := by rw [beq_iff_eq, hLen]; simp only [List.length_cons]; omega
       obtain ⟨y, rfl⟩ : ∃ y, WR = [y] := by
        match WR, hn with
        | [y], _ => exact ⟨y, rfl⟩
       have VC : Hid (Calls Tryz.prog 82 #[.pointer (some ⟨bx, 0, none⟩), .slice (some ⟨b, o, none⟩) L.length wc, .int .i64 (at_ : Nat)] w4 (RsPost B (q + 2) bx w4 (action (bl x) at_ s))) := by
        have hy : y.length ≤ 16777216 := by have := HWL.out y (by simp); rw [bl_len] at this; omega
        have := choice_calls B q bx 4 kRange y (by first | exact .inl ⟨rfl, rfl⟩ | exact .inr ⟨rfl, rfl⟩) hy at_ hat s _ bs sv dv cv _ w4 HG4.out hsh4 (hws _ rfl)
        unfold Hid
        rw [HA.out, actW_range]
        refine Calls.mono ?_ fun e w' hp => RsPost.more hp (Nat.le_add_right q 2)
        exact this
       have hl2 : L.length = 2 := by rw [hLen]; rfl
       rw [hl2] at VC ⊢
       clear HA HWL HLL hLen HG4 hl4 hv4 HS4 hn hl2 t9 t0 l0
       go_wp2_with fail
       refine VC.out.mono ?_
       rintro e w5 ⟨hb5, h5⟩
       have HB5 := Lib.hid (HB4.out.trans hb5)
       clear hb5 VC
       cases hR : action (bl x) at_ s with
       | ok s3 =>
         have HRR := Lib.hid hR
         rw [hR] at h5
         obtain ⟨rfl, h6⟩ := h5
         have H6 := Lib.hid h6
         clear h6 hR
         go_wp2_with fail
         first | go_end0 | refine bodyPost_ret (results_none rfl _ _ _) rfl ?_
         rw [HRR.out]
         exact ⟨HB5.out, rfl, H6.out⟩
       | err ee ii =>
         rw [hR] at h5
         have HRR := Lib.hid hR
         have h6 : e = .panicked [{ v := .iface 84 (.agg #[.int .i64 (ee : Nat), .int .i64 (ii : Nat)]), recovered := false }] := h5
         subst h6
         clear h5 hR
         go_wp2_with fail
         try rw [HRR.out]
         exact ⟨rfl, HB5.out, rfl⟩
     have t9 : ((L.length : Int) == 2) = false := by rw [beq_eq_false_iff_ne, hLen]; simp only [List.length_cons]; omega
     have HE : Hid (action (bl x) at_ s = .err 190 at_) := by unfold Hid; rw [HA.out]; exact actW_bad kRange WR 1 at_ s (by decide) hn
     obtain ⟨m, hm⟩ : ∃ m, L.length = m := ⟨_, rfl⟩
     rw [hm] at t0 l0 t9 ⊢
     have hb1 : ∃ v, ((m : Int) == 1) = v := ⟨_, rfl⟩
     obtain ⟨v1, t1⟩ := hb1
     clear hm
     clear HA HWL HLL hLen HG4 hl4 hv4 HS4 hn
     cases v1
     all_goals
      go_wp2_with fail
      rw [HE.out]
      exact ⟨rfl, HB4.out, rfl⟩
   by_cases hk2 : w0 = kCall
   · subst hk2
     replace hc0 : w4.cell? ⟨b, o, none⟩ = some (.string ⟨#[99, 97, 108, 108]⟩) := hc0
     have hlk : (Instr.lookup 156 (.map (some w2.heap.size)) (.string ⟨#[99, 97, 108, 108]⟩) true).run Tryz.prog w4 = .ok (.tuple #[.func (.func 83) #[.pointer (some ⟨bx, 0, none⟩)] #[], .bool true]) w4 :=
      run_look _ _ _ _ _ _ _ 2 _ true Tryz.underlying156 Tryz.underlying9 hv4 rfl
     have hlg : (Instr.lookup 89 (.map (some w3.heap.size)) (.string ⟨#[99, 97, 108, 108]⟩) false).run Tryz.prog w4 = .ok (.int .i64 3) w4 :=
      run_look _ _ _ _ _ _ _ 2 _ false Tryz.underlying89 Tryz.underlying9 hl4 rfl
     by_cases hn : WR.length = 2
     · have t9 : ((L.length : Int) == 3) = true := by rw [beq_iff_eq, hLen]; simp only [List.length_cons]; omega
       obtain ⟨y, z, rfl⟩ : ∃ y z, WR = [y, z] := by
        match WR, hn with
        | [y, z], _ => exact ⟨y, z, rfl⟩
       have VC : Hid (Calls Tryz.prog 83 #[.pointer (some ⟨bx, 0, none⟩), .slice (some ⟨b, o, none⟩) L.length wc, .int .i64 (at_ : Nat)] w4 (RsPost B (q + 2) bx w4 (action (bl x) at_ s))) := by
        have hy : y.length ≤ 16777216 := by have := HWL.out y (by simp); rw [bl_len] at this; omega
        have hz : z.length ≤ 16777216 := by have := HWL.out z (by simp); rw [bl_len] at this; omega
        have := call_calls B q bx hq kCall y z hy hz at_ hat s _ bs sv dv cv _ w4 HG4.out hsh4 (hws _ rfl)
        unfold Hid
        rw [HA.out, actW_call]
        exact this
       have hl2 : L.length = 3 := by rw [hLen]; rfl
       rw [hl2] at VC ⊢
       clear HA HWL HLL hLen HG4 hl4 hv4 HS4 hn hl2 t9 t0 l0
       go_wp2_with fail
       refine VC.out.mono ?_
       rintro e w5 ⟨hb5, h5⟩
       have HB5 := Lib.hid (HB4.out.trans hb5)
       clear hb5 VC
       cases hR : action (bl x) at_ s with
       | ok s3 =>
         have HRR := Lib.hid hR
         rw [hR] at h5
         obtain ⟨rfl, h6⟩ := h5
         have H6 := Lib.hid h6
         clear h6 hR
         go_wp2_with fail
         first | go_end0 | refine bodyPost_ret (results_none rfl _ _ _) rfl ?_
         rw [HRR.out]
         exact ⟨HB5.out, rfl, H6.out⟩
       | err ee ii =>
         rw [hR] at h5
         have HRR := Lib.hid hR
         have h6 : e = .panicked [{ v := .iface 84 (.agg #[.int .i64 (ee : Nat), .int .i64 (ii : Nat)]), recovered := false }] := h5
         subst h6
         clear h5 hR
         go_wp2_with fail
         try rw [HRR.out]
         exact ⟨rfl, HB5.out, rfl⟩
     have t9 : ((L.length : Int) == 3) = false := by rw [beq_eq_false_iff_ne, hLen]; simp only [List.length_cons]; omega
     have HE : Hid (action (bl x) at_ s = .err 190 at_) := by unfold Hid; rw [HA.out]; exact actW_bad kCall WR 2 at_ s (by decide) hn
     obtain ⟨m, hm⟩ : ∃ m, L.length = m := ⟨_, rfl⟩
     rw [hm] at t0 l0 t9 ⊢
     have hb1 : ∃ v, ((m : Int) == 1) = v := ⟨_, rfl⟩
     obtain ⟨v1, t1⟩ := hb1
     clear hm
     clear HA HWL HLL hLen HG4 hl4 hv4 HS4 hn
     cases v1
     all_goals
      go_wp2_with fail
      rw [HE.out]
      exact ⟨rfl, HB4.out, rfl⟩
   by_cases hk3 : w0 = kDef
   · subst hk3
     replace hc0 : w4.cell? ⟨b, o, none⟩ = some (.string ⟨#[100, 101, 102, 105, 110, 101]⟩) := hc0
     have hlk : (Instr.lookup 156 (.map (some w2.heap.size)) (.string ⟨#[100, 101, 102, 105, 110, 101]⟩) true).run Tryz.prog w4 = .ok (.tuple #[.func (.func 84) #[.pointer (some ⟨bx, 0, none⟩)] #[], .bool true]) w4 :=
      run_look _ _ _ _ _ _ _ 3 _ true Tryz.underlying156 Tryz.underlying9 hv4 rfl
     have hlg : (Instr.lookup 89 (.map (some w3.heap.size)) (.string ⟨#[100, 101, 102, 105, 110, 101]⟩) false).run Tryz.prog w4 = .ok (.int .i64 2) w4 :=
      run_look _ _ _ _ _ _ _ 3 _ false Tryz.underlying89 Tryz.underlying9 hl4 rfl
     by_cases hn : WR.length = 1
     · have t9 : ((L.length : Int) == 2) = true := by rw [beq_iff_eq, hLen]; simp only [List.length_cons]; omega
       obtain ⟨y, rfl⟩ : ∃ y, WR = [y] := by
        match WR, hn with
        | [y], _ => exact ⟨y, rfl⟩
       have VC : Hid (Calls Tryz.prog 84 #[.pointer (some ⟨bx, 0, none⟩), .slice (some ⟨b, o, none⟩) L.length wc, .int .i64 (at_ : Nat)] w4 (RsPost B (q + 2) bx w4 (action (bl x) at_ s))) := by
        have hy : y.length ≤ 16777216 := by have := HWL.out y (by simp); rw [bl_len] at this; omega
        have := define_calls B q bx (by omega) kDef y hy at_ hat s _ bs sv dv cv _ w4 HG4.out (hws _ rfl)
        unfold Hid
        rw [HA.out, actW_def]
        refine Calls.mono ?_ fun e w' hp => RsPost.more hp (Nat.le_add_right q 2)
        exact this
       have hl2 : L.length = 2 := by rw [hLen]; rfl
       rw [hl2] at VC ⊢
       clear HA HWL HLL hLen HG4 hl4 hv4 HS4 hn hl2 t9 t0 l0
       go_wp2_with fail
       refine VC.out.mono ?_
       rintro e w5 ⟨hb5, h5⟩
       have HB5 := Lib.hid (HB4.out.trans hb5)
       clear hb5 VC
       cases hR : action (bl x) at_ s with
       | ok s3 =>
         have HRR := Lib.hid hR
         rw [hR] at h5
         obtain ⟨rfl, h6⟩ := h5
         have H6 := Lib.hid h6
         clear h6 hR
         go_wp2_with fail
         first | go_end0 | refine bodyPost_ret (results_none rfl _ _ _) rfl ?_
         rw [HRR.out]
         exact ⟨HB5.out, rfl, H6.out⟩
       | err ee ii =>
         rw [hR] at h5
         have HRR := Lib.hid hR
         have h6 : e = .panicked [{ v := .iface 84 (.agg #[.int .i64 (ee : Nat), .int .i64 (ii : Nat)]), recovered := false }] := h5
         subst h6
         clear h5 hR
         go_wp2_with fail
         try rw [HRR.out]
         exact ⟨rfl, HB5.out, rfl⟩
     have t9 : ((L.length : Int) == 2) = false := by rw [beq_eq_false_iff_ne, hLen]; simp only [List.length_cons]; omega
     have HE : Hid (action (bl x) at_ s = .err 190 at_) := by unfold Hid; rw [HA.out]; exact actW_bad kDef WR 1 at_ s (by decide) hn
     obtain ⟨m, hm⟩ : ∃ m, L.length = m := ⟨_, rfl⟩
     rw [hm] at t0 l0 t9 ⊢
     have hb1 : ∃ v, ((m : Int) == 1) = v := ⟨_, rfl⟩
     obtain ⟨v1, t1⟩ := hb1
     clear hm
     clear HA HWL HLL hLen HG4 hl4 hv4 HS4 hn
     cases v1
     all_goals
      go_wp2_with fail
      rw [HE.out]
      exact ⟨rfl, HB4.out, rfl⟩
   by_cases hk4 : w0 = kElse
   · subst hk4
     replace hc0 : w4.cell? ⟨b, o, none⟩ = some (.string ⟨#[101, 108, 115, 101]⟩) := hc0
     have hlk : (Instr.lookup 156 (.map (some w2.heap.size)) (.string ⟨#[101, 108, 115, 101]⟩) true).run Tryz.prog w4 = .ok (.tuple #[.func (.func 85) #[.pointer (some ⟨bx, 0, none⟩)] #[], .bool true]) w4 :=
      run_look _ _ _ _ _ _ _ 4 _ true Tryz.underlying156 Tryz.underlying9 hv4 rfl
     have hlg : (Instr.lookup 89 (.map (some w3.heap.size)) (.string ⟨#[101, 108, 115, 101]⟩) false).run Tryz.prog w4 = .ok (.int .i64 1) w4 :=
      run_look _ _ _ _ _ _ _ 4 _ false Tryz.underlying89 Tryz.underlying9 hl4 rfl
     by_cases hn : WR.length = 0
     · have t9 : ((L.length : Int) == 1) = true := by rw [beq_iff_eq, hLen]; simp only [List.length_cons]; omega
       obtain rfl : WR = [] := List.length_eq_zero_iff.1 hn
       have VC : Hid (Calls Tryz.prog 85 #[.pointer (some ⟨bx, 0, none⟩), .slice (some ⟨b, o, none⟩) L.length wc, .int .i64 (at_ : Nat)] w4 (RsPost B (q + 2) bx w4 (action (bl x) at_ s))) := by
        have := other_calls B q bx at_  hat s (.slice (some ⟨b, o, none⟩) L.length wc) w4 ⟨_, _, _, _, _, HG4.out⟩
        unfold Hid
        rw [HA.out, actW_else]
        refine Calls.mono ?_ fun e w' hp => RsPost.more (q := q) hp (by omega)
        exact this
       have hl2 : L.length = 1 := by rw [hLen]; rfl
       rw [hl2] at VC ⊢
       clear HA HWL HLL hLen HG4 hl4 hv4 HS4 hn hl2 t9 t0 l0
       go_wp2_with fail
       refine VC.out.mono ?_
       rintro e w5 ⟨hb5, h5⟩
       have HB5 := Lib.hid (HB4.out.trans hb5)
       clear hb5 VC
       cases hR : action (bl x) at_ s with
       | ok s3 =>
         have HRR := Lib.hid hR
         rw [hR] at h5
         obtain ⟨rfl, h6⟩ := h5
         have H6 := Lib.hid h6
         clear h6 hR
         go_wp2_with fail
         first | go_end0 | refine bodyPost_ret (results_none rfl _ _ _) rfl ?_
         rw [HRR.out]
         exact ⟨HB5.out, rfl, H6.out⟩
       | err ee ii =>
         rw [hR] at h5
         have HRR := Lib.hid hR
         have h6 : e = .panicked [{ v := .iface 84 (.agg #[.int .i64 (ee : Nat), .int .i64 (ii : Nat)]), recovered := false }] := h5
         subst h6
         clear h5 hR
         go_wp2_with fail
         try rw [HRR.out]
         exact ⟨rfl, HB5.out, rfl⟩
     have t9 : ((L.length : Int) == 1) = false := by rw [beq_eq_false_iff_ne, hLen]; simp only [List.length_cons]; omega
     have HE : Hid (action (bl x) at_ s = .err 190 at_) := by unfold Hid; rw [HA.out]; exact actW_bad kElse WR 0 at_ s (by decide) hn
     obtain ⟨m, hm⟩ : ∃ m, L.length = m := ⟨_, rfl⟩
     rw [hm] at t0 l0 t9 ⊢
     clear hm
     clear HA HWL HLL hLen HG4 hl4 hv4 HS4 hn
     go_wp2_with fail
     rw [HE.out]
     exact ⟨rfl, HB4.out, rfl⟩
   by_cases hk5 : w0 = kEnd
   · subst hk5
     replace hc0 : w4.cell? ⟨b, o, none⟩ = some (.string ⟨#[101, 110, 100]⟩) := hc0
     have hlk : (Instr.lookup 156 (.map (some w2.heap.size)) (.string ⟨#[101, 110, 100]⟩) true).run Tryz.prog w4 = .ok (.tuple #[.func (.func 86) #[.pointer (some ⟨bx, 0, none⟩)] #[], .bool true]) w4 :=
      run_look _ _ _ _ _ _ _ 5 _ true Tryz.underlying156 Tryz.underlying9 hv4 rfl
     have hlg : (Instr.lookup 89 (.map (some w3.heap.size)) (.string ⟨#[101, 110, 100]⟩) false).run Tryz.prog w4 = .ok (.int .i64 1) w4 :=
      run_look _ _ _ _ _ _ _ 5 _ false Tryz.underlying89 Tryz.underlying9 hl4 rfl
     by_cases hn : WR.length = 0
     · have t9 : ((L.length : Int) == 1) = true := by rw [beq_iff_eq, hLen]; simp only [List.length_cons]; omega
       obtain rfl : WR = [] := List.length_eq_zero_iff.1 hn
       have VC : Hid (Calls Tryz.prog 86 #[.pointer (some ⟨bx, 0, none⟩), .slice (some ⟨b, o, none⟩) L.length wc, .int .i64 (at_ : Nat)] w4 (RsPost B (q + 2) bx w4 (action (bl x) at_ s))) := by
        have := end_calls B q bx at_ (by omega) hat s (.slice (some ⟨b, o, none⟩) L.length wc) w4 ⟨_, _, _, _, _, HG4.out⟩
        unfold Hid
        rw [HA.out, actW_end]
        refine Calls.mono ?_ fun e w' hp => RsPost.more (q := q + 1) hp (by omega)
        exact this
       have hl2 : L.length = 1 := by rw [hLen]; rfl
       rw [hl2] at VC ⊢
       clear HA HWL HLL hLen HG4 hl4 hv4 HS4 hn hl2 t9 t0 l0
       go_wp2_with fail
       refine VC.out.mono ?_
       rintro e w5 ⟨hb5, h5⟩
       have HB5 := Lib.hid (HB4.out.trans hb5)
       clear hb5 VC
       cases hR : action (bl x) at_ s with
       | ok s3 =>
         have HRR := Lib.hid hR
         rw [hR] at h5
         obtain ⟨rfl, h6⟩ := h5
         have H6 := Lib.hid h6
         clear h6 hR
         go_wp2_with fail
         first | go_end0 | refine bodyPost_ret (results_none rfl _ _ _) rfl ?_
         rw [HRR.out]
         exact ⟨HB5.out, rfl, H6.out⟩
       | err ee ii =>
         rw [hR] at h5
         have HRR := Lib.hid hR
         have h6 : e = .panicked [{ v := .iface 84 (.agg #[.int .i64 (ee : Nat), .int .i64 (ii : Nat)]), recovered := false }] := h5
         subst h6
         clear h5 hR
         go_wp2_with fail
         try rw [HRR.out]
         exact ⟨rfl, HB5.out, rfl⟩
     have t9 : ((L.length : Int) == 1) = false := by rw [beq_eq_false_iff_ne, hLen]; simp only [List.length_cons]; omega
     have HE : Hid (action (bl x) at_ s = .err 190 at_) := by unfold Hid; rw [HA.out]; exact actW_bad kEnd WR 0 at_ s (by decide) hn
     obtain ⟨m, hm⟩ : ∃ m, L.length = m := ⟨_, rfl⟩
     rw [hm] at t0 l0 t9 ⊢
     clear hm
     clear HA HWL HLL hLen HG4 hl4 hv4 HS4 hn
     go_wp2_with fail
     rw [HE.out]
     exact ⟨rfl, HB4.out, rfl⟩
   have hnk : kws.contains w0 = false := by
    rw [Bool.eq_false_iff]
    intro e
    rw [List.contains_eq_mem] at e
    simp only [kws, List.mem_cons, List.not_mem_nil, or_false, decide_eq_true_eq] at e
    rcases e with e | e | e | e | e | e
    · exact hk0 e
    · exact hk4 e
    · exact hk5 e
    · exact hk1 e
    · exact hk2 e
    · exact hk3 e
   clear hk0 hk1 hk2 hk3 hk4 hk5
   have hlk : (Instr.lookup 156 (.map (some w2.heap.size)) (.string (mkB w0)) true).run Tryz.prog w4 = .ok (.tuple #[.nilFunc, .bool false]) w4 :=
    run_look_none _ _ 155 _ _ _ _ _ true Tryz.underlying156 Tryz.underlying9 hv4 (vrbs_none bx (mkB w0) hnk) (by kernel_rfl)
   obtain ⟨X, hX⟩ : ∃ X, mkB w0 = X := ⟨_, rfl⟩
   rw [hX] at hlk hc0
   by_cases hr : WR = []
   · subst hr
     have t1 : ((L.length : Int) == 1) = true := by rw [beq_iff_eq, hLen]; rfl
     have hA2 := HA.out
     rw [actW_one w0 at_ s hnk] at hA2
     have hw0 : w0.length ≤ 16777216 := by have := HWL.out w0 (by simp); rw [bl_len] at this; omega
     have MU := Lib.hid (must_calls (mkB w0) (by rw [mkB_size]; exact hw0) at_ hat w4 hsh4)
     rw [bl_mk, hX] at MU
     cases hw : wayB w0 with
     | none =>
       rw [hw] at MU hA2
       have HE := Lib.hid hA2
       clear hw hA2 HA HWL HLL hLen HG4 hl4 hv4 HS4 hX
       go_wp2_with fail
       refine MU.out.mono ?_
       rintro e w5 ⟨hb5, rfl⟩
       have HB5 := Lib.hid (HB4.out.trans (hb5.mono (by have := HB4.out.size; have := HBw.out; omega)))
       clear hb5
       go_wp2_with fail
       rw [HE.out]
       exact ⟨rfl, HB5.out, rfl⟩
     | some p =>
       rw [hw] at MU hA2
       have HE := Lib.hid hA2
       clear hw hA2 HA HWL HLL hLen hl4 hv4 HS4 hX
       go_wp2_with fail
       refine MU.out.mono ?_
       rintro e w5 ⟨hb5, v, rfl, hst⟩
       obtain ⟨N, hN⟩ : ∃ N, p.2.map mkB = N := ⟨_, rfl⟩
       rw [hN] at hst
       have ⟨va, vc, hv, _⟩ := hst
       subst hv
       have hn5 : Strs (Ok (freshC (freshC col w.heap.size) w4.heap.size) w5) w5 (.slice va N.length vc) N := hst.mono (fun b hb => fresh_ok hb)
       have hg5 := HG4.out.same (same_fresh (B := B) hb5) (fun _ => trivial) (Nat.le_refl q)
       have HB5 := Lib.hid (HB4.out.trans (hb5.mono (by have := HB4.out.size; have := HBw.out; omega)))
       have AD : Hid (Calls Tryz.prog 46 #[.pointer (some ⟨bx, 0, none⟩), .agg #[.int .u8 2, .int .i64 (at_ : Nat), .string ⟨#[]⟩, .bool p.1, .slice va N.length vc, .string ⟨#[]⟩, .slice none 0 0, .slice none 0 0]] w5 (RsPost B (q + 1) bx w5 (action (bl x) at_ s))) := by
        have := add_calls B q bx (by omega) s (hdHole at_ p.1 p.2) at_ hat rfl _ _ _ _ _ (.slice va N.length vc) w5 hg5 (by show Strs _ _ _ (p.2.map mkB); rw [hN]; exact hn5)
        unfold Hid
        rw [HE.out]
        exact this
       have VC := Lib.hid (Calls.mono AD.out fun e w' hp => RsPost.more hp (Nat.le_succ (q + 1)))
       clear hb5 hst hn5 hg5 HG4 AD
       replace HB4 := HB5
       go_wp2_with fail
       refine VC.out.mono ?_
       rintro e w5 ⟨hb5, h5⟩
       have HB5 := Lib.hid (HB4.out.trans hb5)
       clear hb5 VC
       cases hR : action (bl x) at_ s with
       | ok s3 =>
         have HRR := Lib.hid hR
         rw [hR] at h5
         obtain ⟨rfl, h6⟩ := h5
         have H6 := Lib.hid h6
         clear h6 hR
         go_wp2_with fail
         first | go_end0 | refine bodyPost_ret (results_none rfl _ _ _) rfl ?_
         rw [HRR.out]
         exact ⟨HB5.out, rfl, H6.out⟩
       | err ee ii =>
         rw [hR] at h5
         have HRR := Lib.hid hR
         have h6 : e = .panicked [{ v := .iface 84 (.agg #[.int .i64 (ee : Nat), .int .i64 (ii : Nat)]), recovered := false }] := h5
         subst h6
         clear h5 hR
         go_wp2_with fail
         try rw [HRR.out]
         exact ⟨rfl, HB5.out, rfl⟩
   · have HE : Hid (action (bl x) at_ s = .err 190 at_) := by unfold Hid; rw [HA.out]; exact actW_no w0 WR at_ s hnk hr
     have t1 : ((L.length : Int) == 1) = false := by
      rw [beq_eq_false_iff_ne, hLen]
      have := List.length_pos_iff.2 hr
      simp only [List.length_cons]; omega
     clear HA HWL HLL hLen HG4 hl4 hv4 HS4 hX hr
     go_wp2_with fail
     rw [HE.out]
     exact ⟨rfl, HB4.out, rfl⟩
end Go.Proofs.YtepcpgdfbaklfaaGreatDoor
