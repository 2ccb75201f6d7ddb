/-
  The reader's action up to its maps. The condition: the source takes at most 2 to the 24th bytes; MaxLen holds some number.
-/
import Derived.Test.YtepcpgdfbaklfaaGreatDoorMgTma
import Derived.Test.YtepcpgdfbaklfaaGreatDoorMgTen
import Derived.Test.YtepcpgdfbaklfaaGreatDoorTdfM
import Derived.Test.YtepcpgdfbaklfaaGreatDoorMgTrd
import Derived.Test.YtepcpgdfbaklfaaGreatDoorTeoM
import Derived.Test.YtepcpgdfbaklfaaGreatDoorTepM
set_option linter.unusedVariables false
namespace Go.Proofs.YtepcpgdfbaklfaaGreatDoor
open Go.RowKit Go.Shelf Go.ChangeMaps Go.MapKept

/-- The verbs, and how many words they want. -/
def vrbs (bx : Nat) : Array MapEntry := (((((((#[] : Array MapEntry).push { key := .string ⟨#[105, 102]⟩, val := .func (.func 82) #[.pointer (some ⟨bx, 0, none⟩)] #[], born := 0 }).push
  { key := .string ⟨#[114, 97, 110, 103, 101]⟩, val := .func (.func 82) #[.pointer (some ⟨bx, 0, none⟩)] #[], born := 0 + 1 }).push { key := .string ⟨#[99, 97, 108, 108]⟩, val := .func (.func 83) #[.pointer (some ⟨bx, 0, none⟩)] #[], born := 0 + 1 + 1 }).push
  { key := .string ⟨#[100, 101, 102, 105, 110, 101]⟩, val := .func (.func 84) #[.pointer (some ⟨bx, 0, none⟩)] #[], born := 0 + 1 + 1 + 1 }).push { key := .string ⟨#[101, 108, 115, 101]⟩, val := .func (.func 85) #[.pointer (some ⟨bx, 0, none⟩)] #[], born := 0 + 1 + 1 + 1 + 1 }).push
  { key := .string ⟨#[101, 110, 100]⟩, val := .func (.func 86) #[.pointer (some ⟨bx, 0, none⟩)] #[], born := 0 + 1 + 1 + 1 + 1 + 1 })
def lngs : Array MapEntry := (((((((#[] : Array MapEntry).push { key := .string ⟨#[105, 102]⟩, val := .int .i64 2, born := 0 }).push { key := .string ⟨#[114, 97, 110, 103, 101]⟩, val := .int .i64 2, born := 0 + 1 }).push { key := .string ⟨#[99, 97, 108, 108]⟩, val := .int .i64 3, born := 0 + 1 + 1 }).push
  { key := .string ⟨#[100, 101, 102, 105, 110, 101]⟩, val := .int .i64 2, born := 0 + 1 + 1 + 1 }).push { key := .string ⟨#[101, 108, 115, 101]⟩, val := .int .i64 1, born := 0 + 1 + 1 + 1 + 1 }).push { key := .string ⟨#[101, 110, 100]⟩, val := .int .i64 1, born := 0 + 1 + 1 + 1 + 1 + 1 })
theorem kw_ne (s : ByteArray) (k : By) (h : bl s ≠ k) : (s == mkB k) = false := by
  obtain ⟨d⟩ := s
  show (d == k.toArray) = false
  rw [beq_eq_false_iff_ne]
  rintro rfl
  exact h (by simp [bl])
theorem vrbs_none (bx : Nat) (s : ByteArray) (h : kws.contains (bl s) = false) : Instr.findNow .string (.string s) (vrbs bx).toList 0 = some none := by
  have hk : ∀ k ∈ kws, (s == mkB k) = false := fun k hk => kw_ne s k (fun e => by
    rw [← e] at hk
    rw [List.contains_eq_mem] at h
    simp [hk] at h)
  have h1 : (s == (⟨#[105, 102]⟩ : ByteArray)) = false := hk kIf (by decide)
  have h2 : (s == (⟨#[114, 97, 110, 103, 101]⟩ : ByteArray)) = false := hk kRange (by decide)
  have h3 : (s == (⟨#[99, 97, 108, 108]⟩ : ByteArray)) = false := hk kCall (by decide)
  have h4 : (s == (⟨#[100, 101, 102, 105, 110, 101]⟩ : ByteArray)) = false := hk kDef (by decide)
  have h5 : (s == (⟨#[101, 108, 115, 101]⟩ : ByteArray)) = false := hk kElse (by decide)
  have h6 : (s == (⟨#[101, 110, 100]⟩ : ByteArray)) = false := hk kEnd (by decide)
  simp [vrbs, Instr.findNow, Instr.sameNow, h1, h2, h3, h4, h5, h6]
/-- Where a reader's end leads. -/
theorem end_calls (B q bx at_ : Nat) (hq : q ≤ 16777216) (hat : at_ ≤ 16777216) (s : St) (wv : Value) (w : World) (h : RdM B q bx s w) :
    Calls Tryz.prog 86 #[.pointer (some ⟨bx, 0, none⟩), wv, .int .i64 (at_ : Nat)] w (RsPost B (q + 1) bx w (s.endA at_)) := by
  obtain ⟨f, rest, defs, many, calls⟩ := s
  cases rest with
  | nil => exact (end_none B q bx at_ hat _ wv w h rfl).mono fun e w' hp => hp.more (Nat.le_succ q)
  | cons f2 r =>
    by_cases hk : f.kind = 6
    · exact end_def B q bx at_ hq hat f f2 r defs many calls hk wv w h
    · exact end_if B q bx at_ hq hat f f2 r defs many calls hk wv w h
theorem mkB_kw (L : List By) (LB : List ByteArray) (h : L.map mkB = LB) : LB.length = L.length := by rw [← h, List.length_map]
/-- What an action's words lead to. -/
def actW (l : List By) (at_ : Nat) (s : St) : Rs St := match l with
  | [w] => act1 w at_ s
  | [w, x] => act2 w x at_ s
  | [w, x, y] => act3 w x y at_ s
  | _ => .err 190 at_
theorem action_w (x : By) (at_ : Nat) (s : St) (h : comment x = false) : action x at_ s = actW (wordsB x) at_ s := by
  unfold action actW
  rw [if_neg (by rw [h]; decide)]
  rfl
theorem actW_no (w : By) (r : List By) (at_ : Nat) (s : St) (h : kws.contains w = false) (hr : r ≠ []) : actW (w :: r) at_ s = .err 190 at_ := by
  have hk : ∀ k ∈ kws, w ≠ k := by
    rintro k hk rfl
    rw [List.contains_eq_mem] at h
    simp [hk] at h
  match r, hr with
  | [x], _ =>
    show act2 w x at_ s = _
    unfold act2
    rw [if_neg (by rintro (e | e); exact hk kIf (by decide) e; exact hk kRange (by decide) e), if_neg (hk kDef (by decide))]
  | [x, y], _ =>
    show act3 w x y at_ s = _
    unfold act3
    rw [if_neg (hk kCall (by decide))]
  | _ :: _ :: _ :: _, _ => rfl
theorem actW_one (w : By) (at_ : Nat) (s : St) (h : kws.contains w = false) : actW [w] at_ s = match wayB w with
    | none => .err 190 at_
    | some p => s.add (hdHole at_ p.1 p.2) at_ := by
  have hk : ∀ k ∈ kws, w ≠ k := by
    rintro k hk rfl
    rw [List.contains_eq_mem] at h
    simp [hk] at h
  show act1 w at_ s = _
  unfold act1
  rw [if_neg (hk kEnd (by decide)), if_neg (hk kElse (by decide))]
  cases wayB w <;> rfl
theorem actW_if (y : By) (at_ : Nat) (s : St) : actW [kIf, y] at_ s = match wayB y with
    | none => .err 190 at_
    | some p => (s.begin (kindF 3 at_ p) at_).bind fun s => s.count at_ := by
  show act2 kIf y at_ s = _
  unfold act2
  rw [if_pos (.inl rfl), if_pos rfl]
  cases wayB y <;> rfl
theorem actW_range (y : By) (at_ : Nat) (s : St) : actW [kRange, y] at_ s = match wayB y with
    | none => .err 190 at_
    | some p => (s.begin (kindF 4 at_ p) at_).bind fun s => s.count at_ := by
  show act2 kRange y at_ s = _
  unfold act2
  rw [if_pos (.inr rfl), if_neg (by decide)]
  cases wayB y <;> rfl
theorem actW_call (y z : By) (at_ : Nat) (s : St) : actW [kCall, y, z] at_ s = callA y z at_ s := callA_act3 y z at_ s
theorem actW_def (y : By) (at_ : Nat) (s : St) : actW [kDef, y] at_ s = defA y at_ s := by
  show act2 kDef y at_ s = _
  unfold act2 defA
  rw [if_neg (by decide), if_pos rfl]
theorem actW_else (at_ : Nat) (s : St) : actW [kElse] at_ s = s.elseA at_ := by
  show act1 kElse at_ s = _
  unfold act1
  rw [if_neg (by decide), if_pos rfl]
theorem actW_end (at_ : Nat) (s : St) : actW [kEnd] at_ s = s.endA at_ := by
  show act1 kEnd at_ s = _
  unfold act1
  rw [if_pos rfl]
theorem actW_bad (w : By) (r : List By) (n at_ : Nat) (s : St) (h : (w, n) ∈ [(kIf, 1), (kRange, 1), (kCall, 2), (kDef, 1), (kElse, 0), (kEnd, 0)]) (hn : r.length ≠ n) : actW (w :: r) at_ s = .err 190 at_ := by
  simp only [List.mem_cons, Prod.mk.injEq, List.not_mem_nil, or_false] at h
  match r, hn with
  | [], hn =>
    rcases h with ⟨rfl, rfl⟩ | ⟨rfl, rfl⟩ | ⟨rfl, rfl⟩ | ⟨rfl, rfl⟩ | ⟨rfl, rfl⟩ | ⟨rfl, rfl⟩ <;> first | rfl | exact absurd rfl hn
  | [x], hn =>
    show act2 w x at_ s = _
    unfold act2
    rcases h with ⟨rfl, rfl⟩ | ⟨rfl, rfl⟩ | ⟨rfl, rfl⟩ | ⟨rfl, rfl⟩ | ⟨rfl, rfl⟩ | ⟨rfl, rfl⟩ <;> first | exact absurd rfl hn | (rw [if_neg (by decide), if_neg (by decide)])
  | [x, y], hn =>
    show act3 w x y at_ s = _
    unfold act3
    rcases h with ⟨rfl, rfl⟩ | ⟨rfl, rfl⟩ | ⟨rfl, rfl⟩ | ⟨rfl, rfl⟩ | ⟨rfl, rfl⟩ | ⟨rfl, rfl⟩ <;> first | exact absurd rfl hn | (rw [if_neg (by decide)])
  | _ :: _ :: _ :: _, _ => rfl
theorem words_len (x : By) : ∀ w ∈ wordsB x, w.length ≤ x.length := by
  intro w hw
  exact splitP_le _ _ w (List.mem_filter.1 hw).1
set_option maxRecDepth 100000 in
set_option maxHeartbeats 4000000 in
/-- The call, out of what stands behind its maps: of a text that begins otherwise than a comment, and of one that begins so. -/
noncomputable def actCap (B q bx : Nat) (hq : q ≤ 16777215) (x : ByteArray) (hx : x.size ≤ 16777215) (at_ : Nat) (hat : at_ ≤ 16777216) (s : St) (w : World) (h : RdM B q bx s w) (hsh : Sh w) (hc : comment (bl x) = false) :
    PSigma fun P : Nat → Prop => PSigma fun Q : Nat → Prop => (∀ u, P u) → (∀ u, Q u) → Calls Tryz.prog 47 #[.pointer (some ⟨bx, 0, none⟩), .string x, .int .i64 (at_ : Nat)] w (RsPost B (q + 2) bx w (action (bl x) at_ s)) := by
  refine ⟨?P, ?Q, fun CAPP CAPQ => ?main⟩
  case main =>
    have h0 := h
    obtain ⟨col, bs, sv, dv, cv, hg⟩ := h0
    have CP := Tryz.strings_CutPrefix x ⟨#[47, 42]⟩
    have hcc := hc
    have hc1 := hc
    rw [comment_eq] at hc1
    obtain ⟨T, hT⟩ : ∃ T : ByteArray, (⟨(Lib.trimPrefix x.data.toList [47, 42]).toArray⟩ : ByteArray) = T := ⟨_, rfl⟩
    rw [show (⟨#[47, 42]⟩ : ByteArray).data.toList = [47, 42] from rfl, hT] at CP
    have hTs : T.size ≤ x.size := by
      have e : T.size = (Lib.trimPrefix x.data.toList [47, 42]).length := by rw [← hT]; exact mkB_size _
      rw [e]
      have e2 : x.data.toList.length = x.size := bl_len x
      unfold Lib.trimPrefix
      split
      · rw [List.length_drop]; omega
      · omega
    have HS := Tryz.strings_HasSuffix T ⟨#[42, 47]⟩
    rw [show (⟨#[42, 47]⟩ : ByteArray).data.toList = [42, 47] from rfl] at HS
    have hc2 : (Lib.hasPrefix x.data.toList [47, 42] && Lib.hasSuffix T.data.toList [42, 47]) = false := by rw [← hT]; exact hc1
    have HSH := Lib.hid (fun w => HS w (by omega))
    have hmm := @run_makeMap Tryz.prog
    have hmf : ∀ (fn : Fn) (first cap : Array Value) (w : World), (Instr.makeFunc fn first cap).run Tryz.prog w = .ok (.func fn first cap) w := fun _ _ _ _ => rfl
    have WM := Lib.hid (words_mk (w := w) (s := x))
    have CO := Lib.hid (fun w : World => collect_calls w.heap.size x (by omega) ((wordsB (bl x)).map mkB) (goFields_mk x) (by rw [List.length_map]; have := wordsB_len (bl x); rw [bl_len] at this; omega) (w.alloc (.cells #[.string x] 9)) (by rw [cell_of_heap' (heap_alloc_new w _)]; rfl))
    clear HS hT hTs
    have hb1 : Below w.heap.size w (w.alloc (.cells #[.string x] 9)) := (Below.refl w.heap.size w).alloc (Nat.le_refl _) _
    have HB1 := Lib.hid hb1
    clear hb1
    obtain ⟨L, hL⟩ : ∃ L, (wordsB (bl x)).map mkB = L := ⟨_, rfl⟩
    rw [hL] at CO
    have HA := Lib.hid (action_w (bl x) at_ s hcc)
    have HWL := Lib.hid (words_len (bl x))
    obtain ⟨WL, hWL⟩ : ∃ WL, wordsB (bl x) = WL := ⟨_, rfl⟩
    rw [hWL] at HA HWL
    rw [hWL] at hL
    have HLL := Lib.hid hL
    have HLEN := Lib.hid (mkB_kw WL L hL)
    clear hWL hL
    cases hp : Lib.hasPrefix x.data.toList [47, 42] with
    | false =>
      rw [hp] at CP
      clear hc1 hc2 hp HSH CAPQ
      go_enter Tryz.func47, Tryz.ntmps47
      go_wp2_with fail
      refine (CP _).mono ?_
      rintro e w' ⟨rfl, hw⟩
      replace hw := hw.symm
      subst hw
      go_wp2_with fail
      refine WM.out.mono ?_
      rintro e w1 ⟨rfl, rfl⟩
      go_wp2_with fail
      refine (CO.out w).mono ?_
      rintro e w2 ⟨wv, rfl, hst, hb2⟩
      have hb02 := HB1.out.trans (hb2.mono HB1.out.size)
      have hst2 : Strs (New w w2) w2 wv L := hst.mono (fun b hb => ⟨Nat.le_trans HB1.out.size hb.1, hb.2⟩)
      have HB2 := Lib.hid hb02
      have HST := Lib.hid hst2
      obtain ⟨wa, wc, rfl, -⟩ := hst
      clear hb2 hb02 hst2
      have H := MapAt.made w2
      go_upto_region 4 with (refine wpList_insert_lit _ rfl _ _ _ _ rfl 9 _ Tryz.underlying156 Tryz.underlying9 _ _ _ _ _ H rfl _ _ rfl rfl (by rfl) ?_; clear H; intro w3 H)
      replace H : MapAt w2.heap.size w2 w2.heap.size (vrbs bx) 6 w3 := H
      obtain ⟨hv1, -, hb3⟩ := H
      have HV := Lib.hid hv1
      have HB23 := Lib.hid hb3
      have hlt3 : w2.heap.size < w3.heap.size := lt_of_block hv1
      clear hv1 hb3
      have H := MapAt.made w3
      go_upto_region 5 with (refine wpList_insert_lit _ rfl _ _ _ _ rfl 9 _ Tryz.underlying89 Tryz.underlying9 _ _ _ _ _ H rfl _ _ rfl rfl (by rfl) ?_; clear H; intro w4 H)
      replace H : MapAt w3.heap.size w3 w3.heap.size lngs 6 w4 := H
      obtain ⟨hl4, -, hb4⟩ := H
      have hv4 := (hb4.block w2.heap.size hlt3).trans HV.out
      have hb24 := HB23.out.trans (hb4.mono HB23.out.size)
      have hb04 := HB2.out.trans (hb24.mono HB2.out.size)
      have hst4 : Strs (New w w4) w4 (.slice wa L.length wc) L := (HST.out.kept (fun b hb => hb24.block b hb.2.1)).mono (fun b hb => ⟨hb.1, Nat.lt_of_lt_of_le hb.2.1 hb24.size, hb.2.2.same (hb24.block b hb.2.1)⟩)
      have hg4 := hg.same (same_fresh (B := B) hb04) (fun _ => trivial) (Nat.le_refl q)
      have hst4' : Strs (Ok (freshC col w.heap.size) w4) w4 (.slice wa L.length wc) L := hst4.mono (fun b hb => fresh_ok hb)
      have hsh4 := hsh.below hb04
      have HB4 := Lib.hid (hb04.mono hg.hB)
      have HBw : Hid (B ≤ w.heap.size) := hg.hB
      have HG4 := Lib.hid hg4
      have HS4 := Lib.hid hst4'
      clear HV HB23 hlt3 HST HB2 hb4 hb24 hb04 hst4 hst4' hg4 HB1 CO WM CP hmm hmf
      rename_i K1 hK1 K0 hK0
      obtain ⟨u, hu⟩ : ∃ u : Nat, u = 0 := ⟨0, rfl⟩
      have HC := CAPP u
      clear hu CAPP
      revert col bs sv dv cv T L WL HWL HA HLL HLEN w2 wa wc w3 w4 K1 hK1 K0 hK0 hl4 hv4 hsh4 HB4 HBw HG4 HS4
      exact HC
    | true =>
      rw [hp, Bool.true_and] at hc2
      rw [hp] at CP
      rw [hc2] at HSH
      clear hc1 hc2 hp CAPP
      go_enter Tryz.func47, Tryz.ntmps47
      go_wp2_with fail
      refine (CP _).mono ?_
      rintro e w' ⟨rfl, hw⟩
      replace hw := hw.symm
      subst hw
      go_wp2_with fail
      refine (HSH.out _).mono ?_
      rintro e w' ⟨rfl, hw⟩
      replace hw := hw.symm
      subst hw
      go_wp2_with fail
      refine WM.out.mono ?_
      rintro e w1 ⟨rfl, rfl⟩
      go_wp2_with fail
      refine (CO.out w).mono ?_
      rintro e w2 ⟨wv, rfl, hst, hb2⟩
      have hb02 := HB1.out.trans (hb2.mono HB1.out.size)
      have hst2 : Strs (New w w2) w2 wv L := hst.mono (fun b hb => ⟨Nat.le_trans HB1.out.size hb.1, hb.2⟩)
      have HB2 := Lib.hid hb02
      have HST := Lib.hid hst2
      obtain ⟨wa, wc, rfl, -⟩ := hst
      clear hb2 hb02 hst2
      have H := MapAt.made w2
      go_upto_region 4 with (refine wpList_insert_lit _ rfl _ _ _ _ rfl 9 _ Tryz.underlying156 Tryz.underlying9 _ _ _ _ _ H rfl _ _ rfl rfl (by rfl) ?_; clear H; intro w3 H)
      replace H : MapAt w2.heap.size w2 w2.heap.size (vrbs bx) 6 w3 := H
      obtain ⟨hv1, -, hb3⟩ := H
      have HV := Lib.hid hv1
      have HB23 := Lib.hid hb3
      have hlt3 : w2.heap.size < w3.heap.size := lt_of_block hv1
      clear hv1 hb3
      have H := MapAt.made w3
      go_upto_region 5 with (refine wpList_insert_lit _ rfl _ _ _ _ rfl 9 _ Tryz.underlying89 Tryz.underlying9 _ _ _ _ _ H rfl _ _ rfl rfl (by rfl) ?_; clear H; intro w4 H)
      replace H : MapAt w3.heap.size w3 w3.heap.size lngs 6 w4 := H
      obtain ⟨hl4, -, hb4⟩ := H
      have hv4 := (hb4.block w2.heap.size hlt3).trans HV.out
      have hb24 := HB23.out.trans (hb4.mono HB23.out.size)
      have hb04 := HB2.out.trans (hb24.mono HB2.out.size)
      have hst4 : Strs (New w w4) w4 (.slice wa L.length wc) L := (HST.out.kept (fun b hb => hb24.block b hb.2.1)).mono (fun b hb => ⟨hb.1, Nat.lt_of_lt_of_le hb.2.1 hb24.size, hb.2.2.same (hb24.block b hb.2.1)⟩)
      have hg4 := hg.same (same_fresh (B := B) hb04) (fun _ => trivial) (Nat.le_refl q)
      have hst4' : Strs (Ok (freshC col w.heap.size) w4) w4 (.slice wa L.length wc) L := hst4.mono (fun b hb => fresh_ok hb)
      have hsh4 := hsh.below hb04
      have HB4 := Lib.hid (hb04.mono hg.hB)
      have HBw : Hid (B ≤ w.heap.size) := hg.hB
      have HG4 := Lib.hid hg4
      have HS4 := Lib.hid hst4'
      clear HV HB23 hlt3 HST HB2 hb4 hb24 hb04 hst4 hst4' hg4 HB1 CO WM CP HSH hmm hmf
      rename_i K1 hK1 K0 hK0
      obtain ⟨u, hu⟩ : ∃ u : Nat, u = 0 := ⟨0, rfl⟩
      have HC := CAPQ u
      clear hu CAPQ
      revert col bs sv dv cv T L WL HWL HA HLL HLEN w2 wa wc w3 w4 K1 hK1 K0 hK0 hl4 hv4 hsh4 HB4 HBw HG4 HS4
      exact HC
end Go.Proofs.YtepcpgdfbaklfaaGreatDoor
