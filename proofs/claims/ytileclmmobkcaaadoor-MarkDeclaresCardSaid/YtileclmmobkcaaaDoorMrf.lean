/-
  The contract of the document's answer (lacunaref04): Declaration. The condition: the text takes at most 2 to the 24th bytes.
-/
import Derived.Test.YtileclmmobkcaaaDoorMre
import Derived.Test.YtileclmmobkcaaaDoorMdm
set_option linter.unusedVariables false
namespace Go.Proofs.YtileclmmobkcaaaDoor
open Go.RowKit Go.Shelf

set_option maxRecDepth 100000 in
theorem declR_out (s : ByteArray) (at_ : Int) (cd : Bool) (h : at_ < 0 ∨ (s.size : Int) < at_) (w : World) :
    Calls Tryd.prog 9 #[.string s, .int .i64 at_, .bool cd] w (TR w { kind := 0 } 0 false) := by
  rcases h with h | h
  · go_enter Tryd.func9, Tryd.ntmps9
    go_wp2
    exact bodyPost_ret (v := .tuple #[.agg (tkCells { kind := 0 }), .int .i64 0, .bool false]) (by simp [results, Tryd.results9, go_sem]; rfl) rfl ⟨rfl, (Below.refl _ w).alloc (Nat.le_refl _) _⟩
  · have h2 : ¬ at_ < 0 := by omega
    go_enter Tryd.func9, Tryd.ntmps9
    go_wp2
    exact bodyPost_ret (v := .tuple #[.agg (tkCells { kind := 0 }), .int .i64 0, .bool false]) (by simp [results, Tryd.results9, go_sem]; rfl) rfl ⟨rfl, (Below.refl _ w).alloc (Nat.le_refl _) _⟩

theorem cmR_base (st : Nat) (t : List UInt8) (n m : Nat) (r : List UInt8) : cmR st t (n + m) r = ((cmR st t m r).1, n + (cmR st t m r).2.1, (cmR st t m r).2.2) := by
  induction r generalizing st t m with
  | nil => rfl
  | cons c r ih =>
    cases h : cmS st t c with
    | none => rw [cmR_none _ _ _ _ _ h, cmR_none _ _ _ _ _ h]; rfl
    | some x => rw [cmR_some _ _ _ _ _ x.1 x.2 h, cmR_some _ _ _ _ _ x.1 x.2 h]; exact ih x.1 x.2 (m + 1)
theorem commentR_dcl (s : ByteArray) (n : Nat) (r : List UInt8) (hs : s.size ≤ 16777216) (hr : Ps s n r) (w : World) :
    Calls Tryd.prog 20 #[.string s, .int .i64 n] w (TR w { kind := 4, text := (cm r).1 } (n + (cm r).2.1) (cm r).2.2) := by
  have e : cmR 0 [] n r = ((cm r).1, n + (cm r).2.1, (cm r).2.2) := by
    have := cmR_base 0 [] n 0 r
    rw [Nat.add_zero, cm_cmR] at this
    exact this
  have := commentR_calls s n r hs hr w
  rw [e] at this
  have e2 : (((n + (cm r).2.1 : Nat)) : Int) = (n : Int) + ((cm r).2.1 : Int) := by omega
  dsimp only at this
  rw [e2] at this
  exact this
theorem doctypeR_dt (s : ByteArray) (n : Nat) (r : List UInt8) (hs : s.size ≤ 16777216) (hr : Ps s n r) (w : World) :
    Calls Tryd.prog 21 #[.string s, .int .i64 n] w (TR w (dt r).1 ((s.size - (dt r).2.1.length : Nat) : Int) (dt r).2.2) := by
  have := doctypeR_calls s n r hs hr w
  rwa [dt_dR] at this
theorem bogusR_bg (s : ByteArray) (n : Nat) (r : List UInt8) (hs : s.size ≤ 268435456) (hr : Ps s n r) (w : World) :
    Calls Tryd.prog 12 #[.string s, .int .i64 n] w (TR w { kind := 4, text := (bg r).1 } (n + (bg r).2.1) (bg r).2.2) := by
  have := bogusR_in s n r hs hr w
  rw [bgR_bg, List.nil_append] at this
  have e2 : (((n + (bg r).2.1 : Nat)) : Int) = (n : Int) + ((bg r).2.1 : Int) := by omega
  dsimp only at this
  rw [e2] at this
  exact this
theorem ext_pre (s : ByteArray) (n : Nat) (r : List UInt8) (k : Nat) (P : List UInt8) (hr : Ps s n r) (hk : n + k ≤ s.size) (hP : P.length = k) : ((s.extract n (n + k)).toList == P) = Lib.hasPrefix r P := by
  rw [Lib.toList_data, Lib.extract_data, hr.eq, show n + k - n = k by omega]
  unfold Lib.hasPrefix
  rw [Bool.eq_iff_iff, beq_iff_eq, List.isPrefixOf_iff_prefix]
  constructor
  · intro h2; rw [← h2]; exact List.take_prefix _ _
  · intro h2
    rw [← hP]
    exact (List.prefix_iff_eq_take.1 h2).symm


set_option maxRecDepth 100000 in
set_option maxHeartbeats 2000000 in
theorem declR_comment (s : ByteArray) (n : Nat) (cd : Bool) (r : List UInt8) (hs : s.size ≤ 16777216) (hr : Ps s n r) (w : World) (h1 : Lib.hasPrefix r [45, 45] = true) :
    Calls Tryd.prog 9 #[.string s, .int .i64 n, .bool cd] w (TR w (dcl cd r).1 (n + (dcl cd r).2.1) (dcl cd r).2.2) := by
  have hn := hr.le
  have hlen := hr.len
  have h2 : wd wDoc r = false := by
    cases h : wd wDoc r with
    | false => rfl
    | true => rw [wd_head r h] at h1; cases h1
  obtain ⟨r2, hr2⟩ := List.isPrefixOf_iff_prefix.1 h1
  have hrl : 2 + r2.length = r.length := by rw [← hr2]; simp; omega
  have hps2 : Ps s (n + 2) r2 := by
    have := hr.drop 2 (by omega)
    rwa [← hr2] at this
  have KEY : dcl cd r = ({ kind := 4, text := (cm r2).1 }, 2 + (cm r2).2.1, (cm r2).2.2) := by
    unfold dcl
    rw [if_pos h1, ← hr2]; rfl
  rw [KEY]
  have WD : Hid (∀ w, Calls Tryd.prog 19 #[.string s, .int .i64 n, .string ⟨#[100, 111, 99, 116, 121, 112, 101]⟩] w fun e w' => e = .returned (.bool false) ∧ Below w.heap.size w w') := fun w => by
    have := wordR_calls s ⟨#[100, 111, 99, 116, 121, 112, 101]⟩ n r (by omega) (by decide) hr w
    rwa [show (⟨#[100, 111, 99, 116, 121, 112, 101]⟩ : ByteArray).data.toList = wDoc from rfl, h2] at this
  have g2 : n + 2 ≤ s.size := by omega
  have g2' : (n : Int) + 2 ≤ s.size := by omega
  have x2 : ((s.extract n (n + 2)).toList == [45, 45]) = true := by rw [ext_pre s n r 2 [45, 45] hr (by omega) rfl]; exact h1
  have hb0 : Below w.heap.size w (w.alloc (.cells #[.int .u8 0, .string ⟨#[]⟩, .slice none 0 0, .bool false, .string ⟨#[]⟩, .string ⟨#[]⟩, .string ⟨#[]⟩, .bool false, .bool false, .bool false] 26)) := (Below.refl _ w).alloc (Nat.le_refl _) _
  have HB0 := Lib.hid hb0
  have HT0 := Lib.hid (Tb.new w)
  have CC := Lib.hid (fun w => commentR_dcl s (n + 2) r2 hs hps2 w)
  generalize cm r2 = X at *
  obtain ⟨t, k, ok⟩ := X
  dsimp only at CC ⊢
  clear KEY hr hb0 h1 h2 hps2 hr2
  go_enter Tryd.func9, Tryd.ntmps9
  go_wp2_with fail
  generalize hW0 : World.alloc _ _ = W0 at *
  clear hW0
  refine (WD.out _).mono ?_
  rintro e w1 ⟨rfl, hb1⟩
  replace HT0 := Lib.hid (HT0.out.below hb1 HT0.out.lt)
  replace HB0 := Lib.hid (HB0.out.trans (hb1.mono HB0.out.size))
  clear hb1
  go_wp2_with fail
  refine (CC.out _).mono ?_
  rintro e w2 ⟨rfl, hb2⟩
  have HB2 := Lib.hid (HB0.out.trans (hb2.mono HB0.out.size))
  have HT2 := Lib.hid (HT0.out.below hb2 HT0.out.lt)
  obtain ⟨c0, c1, c2, c3, c4, c5, c6, c7, c8, c9, fz⟩ := HT2.out.cs
  clear hb2 HB0 HT0
  unfold tkCells
  go_wp2
  generalize hW3 : World.setCell _ _ _ = W3
  have hR3 : Tb w.heap.size { kind := 4, text := t } W3 := by rw [← hW3]; exact set10 HT2.out _ _ _ _ _ _ _ _ _ _
  have hB3 : Below w.heap.size w W3 := by rw [← hW3]; exact below_sets HB2.out (Nat.le_refl _) _ _ _ _ _ _ _ _ _ _
  refine bodyPost_ret (results_tok rfl rfl hR3) rfl ⟨?_, hB3⟩
  exact tok_end (by omega)

set_option maxRecDepth 100000 in
set_option maxHeartbeats 2000000 in
theorem declR_doctype (s : ByteArray) (n : Nat) (cd : Bool) (r : List UInt8) (hs : s.size ≤ 16777216) (hr : Ps s n r) (w : World) (h2 : wd wDoc r = true) :
    Calls Tryd.prog 9 #[.string s, .int .i64 n, .bool cd] w (TR w (dcl cd r).1 (n + (dcl cd r).2.1) (dcl cd r).2.2) := by
  have hn := hr.le
  have hlen := hr.len
  have h1 := wd_head r h2
  have h7 : 7 ≤ r.length := wd_len _ _ h2
  have hps2 : Ps s (n + 7) (r.drop 7) := hr.drop 7 h7
  have hdl := dt_len (r.drop 7)
  have hdl2 : (r.drop 7).length = r.length - 7 := by simp
  have KEY : dcl cd r = ((dt (r.drop 7)).1, r.length - (dt (r.drop 7)).2.1.length, (dt (r.drop 7)).2.2) := by
    unfold dcl
    rw [if_neg (by rw [h1]; decide), if_pos h2]
  rw [KEY]
  have WD : Hid (∀ w, Calls Tryd.prog 19 #[.string s, .int .i64 n, .string ⟨#[100, 111, 99, 116, 121, 112, 101]⟩] w fun e w' => e = .returned (.bool true) ∧ Below w.heap.size w w') := fun w => by
    have := wordR_calls s ⟨#[100, 111, 99, 116, 121, 112, 101]⟩ n r (by omega) (by decide) hr w
    rwa [show (⟨#[100, 111, 99, 116, 121, 112, 101]⟩ : ByteArray).data.toList = wDoc from rfl, h2] at this
  have g2 : n + 2 ≤ s.size := by omega
  have g2' : (n : Int) + 2 ≤ s.size := by omega
  have x2 : ((s.extract n (n + 2)).toList == [45, 45]) = false := by rw [ext_pre s n r 2 [45, 45] hr (by omega) rfl]; exact h1
  have hb0 : Below w.heap.size w (w.alloc (.cells #[.int .u8 0, .string ⟨#[]⟩, .slice none 0 0, .bool false, .string ⟨#[]⟩, .string ⟨#[]⟩, .string ⟨#[]⟩, .bool false, .bool false, .bool false] 26)) := (Below.refl _ w).alloc (Nat.le_refl _) _
  have HB0 := Lib.hid hb0
  have HT0 := Lib.hid (Tb.new w)
  have CC := Lib.hid (fun w => doctypeR_dt s (n + 7) (r.drop 7) hs hps2 w)
  generalize r.drop 7 = r7 at *
  have hk : r.length - (dt r7).2.1.length = n + r.length - n - (dt r7).2.1.length := by omega
  rw [hk, hlen]
  have hsz : (dt r7).2.1.length ≤ s.size - n := by omega
  clear hk hdl hdl2
  generalize hdt : dt r7 = Y at *
  obtain ⟨tt, rr, oo⟩ := Y
  dsimp only at CC hsz ⊢
  obtain ⟨X, hX⟩ : ∃ X : Tk × Nat × Bool, X = (tt, s.size - n - rr.length, oo) := ⟨_, rfl⟩
  have hX1 : tt = X.1 := by rw [hX]
  have hX2 : s.size - n - rr.length = X.2.1 := by rw [hX]
  have hX3 : oo = X.2.2 := by rw [hX]
  have hX4 : ((s.size - rr.length : Nat) : Int) = (n : Int) + ((s.size - n - rr.length : Nat) : Int) := by omega
  rw [hX4] at CC
  rw [hX2, hX1, hX3] at CC ⊢
  clear hX hX1 hX2 hX3 hX4 hdt hsz
  obtain ⟨t, k, ok⟩ := X
  dsimp only at CC ⊢
  clear KEY hr hb0 h1 h2 hps2
  go_enter Tryd.func9, Tryd.ntmps9
  go_wp2_with fail
  generalize hW0 : World.alloc _ _ = W0 at *
  clear hW0
  refine (WD.out _).mono ?_
  rintro e w1 ⟨rfl, hb1⟩
  replace HT0 := Lib.hid (HT0.out.below hb1 HT0.out.lt)
  replace HB0 := Lib.hid (HB0.out.trans (hb1.mono HB0.out.size))
  clear hb1
  go_wp2_with fail
  refine (CC.out _).mono ?_
  rintro e w2 ⟨rfl, hb2⟩
  have HB2 := Lib.hid (HB0.out.trans (hb2.mono HB0.out.size))
  have HT2 := Lib.hid (HT0.out.below hb2 HT0.out.lt)
  obtain ⟨c0, c1, c2, c3, c4, c5, c6, c7, c8, c9, fz⟩ := HT2.out.cs
  clear hb2 HB0 HT0
  unfold tkCells
  go_wp2
  generalize hW3 : World.setCell _ _ _ = W3
  have hR3 : Tb w.heap.size t W3 := by rw [← hW3]; exact set10 HT2.out _ _ _ _ _ _ _ _ _ _
  have hB3 : Below w.heap.size w W3 := by rw [← hW3]; exact below_sets HB2.out (Nat.le_refl _) _ _ _ _ _ _ _ _ _ _
  refine bodyPost_ret (results_tok rfl rfl hR3) rfl ⟨?_, hB3⟩
  exact tok_end (by omega)

set_option maxRecDepth 100000 in
set_option maxHeartbeats 2000000 in
theorem declR_cdata (s : ByteArray) (n : Nat) (r : List UInt8) (hs : s.size ≤ 16777216) (hr : Ps s n r) (w : World) (h1 : Lib.hasPrefix r [45, 45] = false) (h2 : wd wDoc r = false) (h3 : Lib.hasPrefix r wCd = true) :
    Calls Tryd.prog 9 #[.string s, .int .i64 n, .bool true] w (TR w (dcl true r).1 (n + (dcl true r).2.1) (dcl true r).2.2) := by
  have hn := hr.le
  have hlen := hr.len
  obtain ⟨r2, hr2⟩ := List.isPrefixOf_iff_prefix.1 h3
  have hrl : 7 + r2.length = r.length := by rw [← hr2]; simp [wCd]; omega
  have hps2 : Ps s (n + 7) r2 := by
    have := hr.drop 7 (by omega)
    rwa [← hr2] at this
  have KEY : dcl true r = ({ kind := 1, text := (cdt r2).1 }, 7 + (cdt r2).2.1, (cdt r2).2.2) := by
    unfold dcl
    rw [if_neg (by rw [h1]; decide), if_neg (by rw [h2]; decide), if_pos (by rw [h3]; rfl), ← hr2]; rfl
  rw [KEY]
  have WD : Hid (∀ w, Calls Tryd.prog 19 #[.string s, .int .i64 n, .string ⟨#[100, 111, 99, 116, 121, 112, 101]⟩] w fun e w' => e = .returned (.bool false) ∧ Below w.heap.size w w') := fun w => by
    have := wordR_calls s ⟨#[100, 111, 99, 116, 121, 112, 101]⟩ n r (by omega) (by decide) hr w
    rwa [show (⟨#[100, 111, 99, 116, 121, 112, 101]⟩ : ByteArray).data.toList = wDoc from rfl, h2] at this
  have g2 : n + 2 ≤ s.size := by omega
  have g2' : (n : Int) + 2 ≤ s.size := by omega
  have g7 : n + 7 ≤ s.size := by omega
  have g7' : (n : Int) + 7 ≤ s.size := by omega
  have x2 : ((s.extract n (n + 2)).toList == [45, 45]) = false := by rw [ext_pre s n r 2 [45, 45] hr (by omega) rfl]; exact h1
  have x7 : ((s.extract n (n + 7)).toList == [91, 67, 68, 65, 84, 65, 91]) = true := by rw [ext_pre s n r 7 [91, 67, 68, 65, 84, 65, 91] hr (by omega) rfl]; exact h3
  have hb0 : Below w.heap.size w (w.alloc (.cells #[.int .u8 0, .string ⟨#[]⟩, .slice none 0 0, .bool false, .string ⟨#[]⟩, .string ⟨#[]⟩, .string ⟨#[]⟩, .bool false, .bool false, .bool false] 26)) := (Below.refl _ w).alloc (Nat.le_refl _) _
  have HB0 := Lib.hid hb0
  have HT0 := Lib.hid (Tb.new w)
  have CC := Lib.hid (fun w => cdataR_calls s (n + 7) r2 (by omega) hps2 w)
  generalize cdt r2 = X at *
  obtain ⟨t, k, ok⟩ := X
  dsimp only at CC ⊢
  clear KEY hr hb0 h1 h2 hps2 hr2 h3
  go_enter Tryd.func9, Tryd.ntmps9
  go_wp2_with fail
  generalize hW0 : World.alloc _ _ = W0 at *
  clear hW0
  refine (WD.out _).mono ?_
  rintro e w1 ⟨rfl, hb1⟩
  replace HT0 := Lib.hid (HT0.out.below hb1 HT0.out.lt)
  replace HB0 := Lib.hid (HB0.out.trans (hb1.mono HB0.out.size))
  clear hb1
  go_wp2_with fail
  refine (CC.out _).mono ?_
  rintro e w2 ⟨rfl, hb2⟩
  have HB2 := Lib.hid (HB0.out.trans (hb2.mono HB0.out.size))
  have HT2 := Lib.hid (HT0.out.below hb2 HT0.out.lt)
  obtain ⟨c0, c1, c2, c3, c4, c5, c6, c7, c8, c9, fz⟩ := HT2.out.cs
  clear hb2 HB0 HT0
  unfold tkCells
  go_wp2
  generalize hW3 : World.setCell _ _ _ = W3
  have hR3 : Tb w.heap.size { kind := 1, text := t } W3 := by rw [← hW3]; exact set10 HT2.out _ _ _ _ _ _ _ _ _ _
  have hB3 : Below w.heap.size w W3 := by rw [← hW3]; exact below_sets HB2.out (Nat.le_refl _) _ _ _ _ _ _ _ _ _ _
  refine bodyPost_ret (results_tok rfl rfl hR3) rfl ⟨?_, hB3⟩
  exact tok_end (by omega)

set_option maxRecDepth 100000 in
set_option maxHeartbeats 2000000 in
theorem declR_bogus_false_s2 (s : ByteArray) (n : Nat) (r : List UInt8) (hs : s.size ≤ 16777216) (hr : Ps s n r) (w : World) (h1 : Lib.hasPrefix r [45, 45] = false) (h2 : wd wDoc r = false) (h7 : r.length < 2) :
    Calls Tryd.prog 9 #[.string s, .int .i64 n, .bool false] w (TR w (dcl false r).1 (n + (dcl false r).2.1) (dcl false r).2.2) := by
  have hn := hr.le
  have hlen := hr.len
  have KEY : dcl false r = ({ kind := 4, text := (bg r).1 }, (bg r).2.1, (bg r).2.2) := by
    unfold dcl
    rw [if_neg (by rw [h1]; decide), if_neg (by rw [h2]; decide), if_neg (by simp)]
  rw [KEY]
  have WD : Hid (∀ w, Calls Tryd.prog 19 #[.string s, .int .i64 n, .string ⟨#[100, 111, 99, 116, 121, 112, 101]⟩] w fun e w' => e = .returned (.bool false) ∧ Below w.heap.size w w') := fun w => by
    have := wordR_calls s ⟨#[100, 111, 99, 116, 121, 112, 101]⟩ n r (by omega) (by decide) hr w
    rwa [show (⟨#[100, 111, 99, 116, 121, 112, 101]⟩ : ByteArray).data.toList = wDoc from rfl, h2] at this
  have g2 : ¬ (n + 2 ≤ s.size) := by omega
  have g2' : ¬ ((n : Int) + 2 ≤ s.size) := by omega
  have g7 : ¬ (n + 7 ≤ s.size) := by omega
  have g7' : ¬ ((n : Int) + 7 ≤ s.size) := by omega
  have hb0 : Below w.heap.size w (w.alloc (.cells #[.int .u8 0, .string ⟨#[]⟩, .slice none 0 0, .bool false, .string ⟨#[]⟩, .string ⟨#[]⟩, .string ⟨#[]⟩, .bool false, .bool false, .bool false] 26)) := (Below.refl _ w).alloc (Nat.le_refl _) _
  have HB0 := Lib.hid hb0
  have HT0 := Lib.hid (Tb.new w)
  have CC := Lib.hid (fun w => bogusR_bg s n r (by omega) hr w)
  generalize bg r = X at *
  obtain ⟨t, k, ok⟩ := X
  dsimp only at CC ⊢
  clear KEY hr hb0 h1 h2 
  go_enter Tryd.func9, Tryd.ntmps9
  go_wp2_with fail
  generalize hW0 : World.alloc _ _ = W0 at *
  clear hW0
  refine (WD.out _).mono ?_
  rintro e w1 ⟨rfl, hb1⟩
  replace HT0 := Lib.hid (HT0.out.below hb1 HT0.out.lt)
  replace HB0 := Lib.hid (HB0.out.trans (hb1.mono HB0.out.size))
  clear hb1
  go_wp2_with fail
  refine (CC.out _).mono ?_
  rintro e w2 ⟨rfl, hb2⟩
  have HB2 := Lib.hid (HB0.out.trans (hb2.mono HB0.out.size))
  have HT2 := Lib.hid (HT0.out.below hb2 HT0.out.lt)
  obtain ⟨c0, c1, c2, c3, c4, c5, c6, c7, c8, c9, fz⟩ := HT2.out.cs
  clear hb2 HB0 HT0
  unfold tkCells
  go_wp2
  generalize hW3 : World.setCell _ _ _ = W3
  have hR3 : Tb w.heap.size { kind := 4, text := t } W3 := by rw [← hW3]; exact set10 HT2.out _ _ _ _ _ _ _ _ _ _
  have hB3 : Below w.heap.size w W3 := by rw [← hW3]; exact below_sets HB2.out (Nat.le_refl _) _ _ _ _ _ _ _ _ _ _
  refine bodyPost_ret (results_tok rfl rfl hR3) rfl ⟨?_, hB3⟩
  exact tok_end (by omega)

set_option maxRecDepth 100000 in
set_option maxHeartbeats 2000000 in
theorem declR_bogus_false_s7 (s : ByteArray) (n : Nat) (r : List UInt8) (hs : s.size ≤ 16777216) (hr : Ps s n r) (w : World) (h1 : Lib.hasPrefix r [45, 45] = false) (h2 : wd wDoc r = false) (h7 : 2 ≤ r.length) (h8 : r.length < 7) :
    Calls Tryd.prog 9 #[.string s, .int .i64 n, .bool false] w (TR w (dcl false r).1 (n + (dcl false r).2.1) (dcl false r).2.2) := by
  have hn := hr.le
  have hlen := hr.len
  have KEY : dcl false r = ({ kind := 4, text := (bg r).1 }, (bg r).2.1, (bg r).2.2) := by
    unfold dcl
    rw [if_neg (by rw [h1]; decide), if_neg (by rw [h2]; decide), if_neg (by simp)]
  rw [KEY]
  have WD : Hid (∀ w, Calls Tryd.prog 19 #[.string s, .int .i64 n, .string ⟨#[100, 111, 99, 116, 121, 112, 101]⟩] w fun e w' => e = .returned (.bool false) ∧ Below w.heap.size w w') := fun w => by
    have := wordR_calls s ⟨#[100, 111, 99, 116, 121, 112, 101]⟩ n r (by omega) (by decide) hr w
    rwa [show (⟨#[100, 111, 99, 116, 121, 112, 101]⟩ : ByteArray).data.toList = wDoc from rfl, h2] at this
  have g2 : n + 2 ≤ s.size := by omega
  have g2' : (n : Int) + 2 ≤ s.size := by omega
  have g7 : ¬ (n + 7 ≤ s.size) := by omega
  have g7' : ¬ ((n : Int) + 7 ≤ s.size) := by omega
  have x2 : ((s.extract n (n + 2)).toList == [45, 45]) = false := by rw [ext_pre s n r 2 [45, 45] hr (by omega) rfl]; exact h1
  have hb0 : Below w.heap.size w (w.alloc (.cells #[.int .u8 0, .string ⟨#[]⟩, .slice none 0 0, .bool false, .string ⟨#[]⟩, .string ⟨#[]⟩, .string ⟨#[]⟩, .bool false, .bool false, .bool false] 26)) := (Below.refl _ w).alloc (Nat.le_refl _) _
  have HB0 := Lib.hid hb0
  have HT0 := Lib.hid (Tb.new w)
  have CC := Lib.hid (fun w => bogusR_bg s n r (by omega) hr w)
  generalize bg r = X at *
  obtain ⟨t, k, ok⟩ := X
  dsimp only at CC ⊢
  clear KEY hr hb0 h1 h2 
  go_enter Tryd.func9, Tryd.ntmps9
  go_wp2_with fail
  generalize hW0 : World.alloc _ _ = W0 at *
  clear hW0
  refine (WD.out _).mono ?_
  rintro e w1 ⟨rfl, hb1⟩
  replace HT0 := Lib.hid (HT0.out.below hb1 HT0.out.lt)
  replace HB0 := Lib.hid (HB0.out.trans (hb1.mono HB0.out.size))
  clear hb1
  go_wp2_with fail
  refine (CC.out _).mono ?_
  rintro e w2 ⟨rfl, hb2⟩
  have HB2 := Lib.hid (HB0.out.trans (hb2.mono HB0.out.size))
  have HT2 := Lib.hid (HT0.out.below hb2 HT0.out.lt)
  obtain ⟨c0, c1, c2, c3, c4, c5, c6, c7, c8, c9, fz⟩ := HT2.out.cs
  clear hb2 HB0 HT0
  unfold tkCells
  go_wp2
  generalize hW3 : World.setCell _ _ _ = W3
  have hR3 : Tb w.heap.size { kind := 4, text := t } W3 := by rw [← hW3]; exact set10 HT2.out _ _ _ _ _ _ _ _ _ _
  have hB3 : Below w.heap.size w W3 := by rw [← hW3]; exact below_sets HB2.out (Nat.le_refl _) _ _ _ _ _ _ _ _ _ _
  refine bodyPost_ret (results_tok rfl rfl hR3) rfl ⟨?_, hB3⟩
  exact tok_end (by omega)

set_option maxRecDepth 100000 in
set_option maxHeartbeats 2000000 in
theorem declR_bogus_false_l7 (s : ByteArray) (n : Nat) (r : List UInt8) (hs : s.size ≤ 16777216) (hr : Ps s n r) (w : World) (h1 : Lib.hasPrefix r [45, 45] = false) (h2 : wd wDoc r = false) (h7 : 7 ≤ r.length) :
    Calls Tryd.prog 9 #[.string s, .int .i64 n, .bool false] w (TR w (dcl false r).1 (n + (dcl false r).2.1) (dcl false r).2.2) := by
  have hn := hr.le
  have hlen := hr.len
  have KEY : dcl false r = ({ kind := 4, text := (bg r).1 }, (bg r).2.1, (bg r).2.2) := by
    unfold dcl
    rw [if_neg (by rw [h1]; decide), if_neg (by rw [h2]; decide), if_neg (by simp)]
  rw [KEY]
  have WD : Hid (∀ w, Calls Tryd.prog 19 #[.string s, .int .i64 n, .string ⟨#[100, 111, 99, 116, 121, 112, 101]⟩] w fun e w' => e = .returned (.bool false) ∧ Below w.heap.size w w') := fun w => by
    have := wordR_calls s ⟨#[100, 111, 99, 116, 121, 112, 101]⟩ n r (by omega) (by decide) hr w
    rwa [show (⟨#[100, 111, 99, 116, 121, 112, 101]⟩ : ByteArray).data.toList = wDoc from rfl, h2] at this
  have g2 : n + 2 ≤ s.size := by omega
  have g2' : (n : Int) + 2 ≤ s.size := by omega
  have g7 : n + 7 ≤ s.size := by omega
  have g7' : (n : Int) + 7 ≤ s.size := by omega
  have x2 : ((s.extract n (n + 2)).toList == [45, 45]) = false := by rw [ext_pre s n r 2 [45, 45] hr (by omega) rfl]; exact h1
  have hb0 : Below w.heap.size w (w.alloc (.cells #[.int .u8 0, .string ⟨#[]⟩, .slice none 0 0, .bool false, .string ⟨#[]⟩, .string ⟨#[]⟩, .string ⟨#[]⟩, .bool false, .bool false, .bool false] 26)) := (Below.refl _ w).alloc (Nat.le_refl _) _
  have HB0 := Lib.hid hb0
  have HT0 := Lib.hid (Tb.new w)
  have CC := Lib.hid (fun w => bogusR_bg s n r (by omega) hr w)
  generalize bg r = X at *
  obtain ⟨t, k, ok⟩ := X
  dsimp only at CC ⊢
  clear KEY hr hb0 h1 h2 
  go_enter Tryd.func9, Tryd.ntmps9
  go_wp2_with fail
  generalize hW0 : World.alloc _ _ = W0 at *
  clear hW0
  refine (WD.out _).mono ?_
  rintro e w1 ⟨rfl, hb1⟩
  replace HT0 := Lib.hid (HT0.out.below hb1 HT0.out.lt)
  replace HB0 := Lib.hid (HB0.out.trans (hb1.mono HB0.out.size))
  clear hb1
  go_wp2_with fail
  refine (CC.out _).mono ?_
  rintro e w2 ⟨rfl, hb2⟩
  have HB2 := Lib.hid (HB0.out.trans (hb2.mono HB0.out.size))
  have HT2 := Lib.hid (HT0.out.below hb2 HT0.out.lt)
  obtain ⟨c0, c1, c2, c3, c4, c5, c6, c7, c8, c9, fz⟩ := HT2.out.cs
  clear hb2 HB0 HT0
  unfold tkCells
  go_wp2
  generalize hW3 : World.setCell _ _ _ = W3
  have hR3 : Tb w.heap.size { kind := 4, text := t } W3 := by rw [← hW3]; exact set10 HT2.out _ _ _ _ _ _ _ _ _ _
  have hB3 : Below w.heap.size w W3 := by rw [← hW3]; exact below_sets HB2.out (Nat.le_refl _) _ _ _ _ _ _ _ _ _ _
  refine bodyPost_ret (results_tok rfl rfl hR3) rfl ⟨?_, hB3⟩
  exact tok_end (by omega)

set_option maxRecDepth 100000 in
set_option maxHeartbeats 2000000 in
theorem declR_bogus_true_s2 (s : ByteArray) (n : Nat) (r : List UInt8) (hs : s.size ≤ 16777216) (hr : Ps s n r) (w : World) (h1 : Lib.hasPrefix r [45, 45] = false) (h2 : wd wDoc r = false) (h3 : Lib.hasPrefix r wCd = false) (h7 : r.length < 2) :
    Calls Tryd.prog 9 #[.string s, .int .i64 n, .bool true] w (TR w (dcl true r).1 (n + (dcl true r).2.1) (dcl true r).2.2) := by
  have hn := hr.le
  have hlen := hr.len
  have KEY : dcl true r = ({ kind := 4, text := (bg r).1 }, (bg r).2.1, (bg r).2.2) := by
    unfold dcl
    rw [if_neg (by rw [h1]; decide), if_neg (by rw [h2]; decide), if_neg (by rw [h3]; decide)]
  rw [KEY]
  have WD : Hid (∀ w, Calls Tryd.prog 19 #[.string s, .int .i64 n, .string ⟨#[100, 111, 99, 116, 121, 112, 101]⟩] w fun e w' => e = .returned (.bool false) ∧ Below w.heap.size w w') := fun w => by
    have := wordR_calls s ⟨#[100, 111, 99, 116, 121, 112, 101]⟩ n r (by omega) (by decide) hr w
    rwa [show (⟨#[100, 111, 99, 116, 121, 112, 101]⟩ : ByteArray).data.toList = wDoc from rfl, h2] at this
  have g2 : ¬ (n + 2 ≤ s.size) := by omega
  have g2' : ¬ ((n : Int) + 2 ≤ s.size) := by omega
  have g7 : ¬ (n + 7 ≤ s.size) := by omega
  have g7' : ¬ ((n : Int) + 7 ≤ s.size) := by omega
  have hb0 : Below w.heap.size w (w.alloc (.cells #[.int .u8 0, .string ⟨#[]⟩, .slice none 0 0, .bool false, .string ⟨#[]⟩, .string ⟨#[]⟩, .string ⟨#[]⟩, .bool false, .bool false, .bool false] 26)) := (Below.refl _ w).alloc (Nat.le_refl _) _
  have HB0 := Lib.hid hb0
  have HT0 := Lib.hid (Tb.new w)
  have CC := Lib.hid (fun w => bogusR_bg s n r (by omega) hr w)
  generalize bg r = X at *
  obtain ⟨t, k, ok⟩ := X
  dsimp only at CC ⊢
  clear KEY hr hb0 h1 h2 h3
  go_enter Tryd.func9, Tryd.ntmps9
  go_wp2_with fail
  generalize hW0 : World.alloc _ _ = W0 at *
  clear hW0
  refine (WD.out _).mono ?_
  rintro e w1 ⟨rfl, hb1⟩
  replace HT0 := Lib.hid (HT0.out.below hb1 HT0.out.lt)
  replace HB0 := Lib.hid (HB0.out.trans (hb1.mono HB0.out.size))
  clear hb1
  go_wp2_with fail
  refine (CC.out _).mono ?_
  rintro e w2 ⟨rfl, hb2⟩
  have HB2 := Lib.hid (HB0.out.trans (hb2.mono HB0.out.size))
  have HT2 := Lib.hid (HT0.out.below hb2 HT0.out.lt)
  obtain ⟨c0, c1, c2, c3, c4, c5, c6, c7, c8, c9, fz⟩ := HT2.out.cs
  clear hb2 HB0 HT0
  unfold tkCells
  go_wp2
  generalize hW3 : World.setCell _ _ _ = W3
  have hR3 : Tb w.heap.size { kind := 4, text := t } W3 := by rw [← hW3]; exact set10 HT2.out _ _ _ _ _ _ _ _ _ _
  have hB3 : Below w.heap.size w W3 := by rw [← hW3]; exact below_sets HB2.out (Nat.le_refl _) _ _ _ _ _ _ _ _ _ _
  refine bodyPost_ret (results_tok rfl rfl hR3) rfl ⟨?_, hB3⟩
  exact tok_end (by omega)

set_option maxRecDepth 100000 in
set_option maxHeartbeats 2000000 in
theorem declR_bogus_true_s7 (s : ByteArray) (n : Nat) (r : List UInt8) (hs : s.size ≤ 16777216) (hr : Ps s n r) (w : World) (h1 : Lib.hasPrefix r [45, 45] = false) (h2 : wd wDoc r = false) (h3 : Lib.hasPrefix r wCd = false) (h7 : 2 ≤ r.length) (h8 : r.length < 7) :
    Calls Tryd.prog 9 #[.string s, .int .i64 n, .bool true] w (TR w (dcl true r).1 (n + (dcl true r).2.1) (dcl true r).2.2) := by
  have hn := hr.le
  have hlen := hr.len
  have KEY : dcl true r = ({ kind := 4, text := (bg r).1 }, (bg r).2.1, (bg r).2.2) := by
    unfold dcl
    rw [if_neg (by rw [h1]; decide), if_neg (by rw [h2]; decide), if_neg (by rw [h3]; decide)]
  rw [KEY]
  have WD : Hid (∀ w, Calls Tryd.prog 19 #[.string s, .int .i64 n, .string ⟨#[100, 111, 99, 116, 121, 112, 101]⟩] w fun e w' => e = .returned (.bool false) ∧ Below w.heap.size w w') := fun w => by
    have := wordR_calls s ⟨#[100, 111, 99, 116, 121, 112, 101]⟩ n r (by omega) (by decide) hr w
    rwa [show (⟨#[100, 111, 99, 116, 121, 112, 101]⟩ : ByteArray).data.toList = wDoc from rfl, h2] at this
  have g2 : n + 2 ≤ s.size := by omega
  have g2' : (n : Int) + 2 ≤ s.size := by omega
  have g7 : ¬ (n + 7 ≤ s.size) := by omega
  have g7' : ¬ ((n : Int) + 7 ≤ s.size) := by omega
  have x2 : ((s.extract n (n + 2)).toList == [45, 45]) = false := by rw [ext_pre s n r 2 [45, 45] hr (by omega) rfl]; exact h1
  have hb0 : Below w.heap.size w (w.alloc (.cells #[.int .u8 0, .string ⟨#[]⟩, .slice none 0 0, .bool false, .string ⟨#[]⟩, .string ⟨#[]⟩, .string ⟨#[]⟩, .bool false, .bool false, .bool false] 26)) := (Below.refl _ w).alloc (Nat.le_refl _) _
  have HB0 := Lib.hid hb0
  have HT0 := Lib.hid (Tb.new w)
  have CC := Lib.hid (fun w => bogusR_bg s n r (by omega) hr w)
  generalize bg r = X at *
  obtain ⟨t, k, ok⟩ := X
  dsimp only at CC ⊢
  clear KEY hr hb0 h1 h2 h3
  go_enter Tryd.func9, Tryd.ntmps9
  go_wp2_with fail
  generalize hW0 : World.alloc _ _ = W0 at *
  clear hW0
  refine (WD.out _).mono ?_
  rintro e w1 ⟨rfl, hb1⟩
  replace HT0 := Lib.hid (HT0.out.below hb1 HT0.out.lt)
  replace HB0 := Lib.hid (HB0.out.trans (hb1.mono HB0.out.size))
  clear hb1
  go_wp2_with fail
  refine (CC.out _).mono ?_
  rintro e w2 ⟨rfl, hb2⟩
  have HB2 := Lib.hid (HB0.out.trans (hb2.mono HB0.out.size))
  have HT2 := Lib.hid (HT0.out.below hb2 HT0.out.lt)
  obtain ⟨c0, c1, c2, c3, c4, c5, c6, c7, c8, c9, fz⟩ := HT2.out.cs
  clear hb2 HB0 HT0
  unfold tkCells
  go_wp2
  generalize hW3 : World.setCell _ _ _ = W3
  have hR3 : Tb w.heap.size { kind := 4, text := t } W3 := by rw [← hW3]; exact set10 HT2.out _ _ _ _ _ _ _ _ _ _
  have hB3 : Below w.heap.size w W3 := by rw [← hW3]; exact below_sets HB2.out (Nat.le_refl _) _ _ _ _ _ _ _ _ _ _
  refine bodyPost_ret (results_tok rfl rfl hR3) rfl ⟨?_, hB3⟩
  exact tok_end (by omega)

set_option maxRecDepth 100000 in
set_option maxHeartbeats 2000000 in
theorem declR_bogus_true_l7 (s : ByteArray) (n : Nat) (r : List UInt8) (hs : s.size ≤ 16777216) (hr : Ps s n r) (w : World) (h1 : Lib.hasPrefix r [45, 45] = false) (h2 : wd wDoc r = false) (h3 : Lib.hasPrefix r wCd = false) (h7 : 7 ≤ r.length) :
    Calls Tryd.prog 9 #[.string s, .int .i64 n, .bool true] w (TR w (dcl true r).1 (n + (dcl true r).2.1) (dcl true r).2.2) := by
  have hn := hr.le
  have hlen := hr.len
  have KEY : dcl true r = ({ kind := 4, text := (bg r).1 }, (bg r).2.1, (bg r).2.2) := by
    unfold dcl
    rw [if_neg (by rw [h1]; decide), if_neg (by rw [h2]; decide), if_neg (by rw [h3]; decide)]
  rw [KEY]
  have WD : Hid (∀ w, Calls Tryd.prog 19 #[.string s, .int .i64 n, .string ⟨#[100, 111, 99, 116, 121, 112, 101]⟩] w fun e w' => e = .returned (.bool false) ∧ Below w.heap.size w w') := fun w => by
    have := wordR_calls s ⟨#[100, 111, 99, 116, 121, 112, 101]⟩ n r (by omega) (by decide) hr w
    rwa [show (⟨#[100, 111, 99, 116, 121, 112, 101]⟩ : ByteArray).data.toList = wDoc from rfl, h2] at this
  have g2 : n + 2 ≤ s.size := by omega
  have g2' : (n : Int) + 2 ≤ s.size := by omega
  have g7 : n + 7 ≤ s.size := by omega
  have g7' : (n : Int) + 7 ≤ s.size := by omega
  have x2 : ((s.extract n (n + 2)).toList == [45, 45]) = false := by rw [ext_pre s n r 2 [45, 45] hr (by omega) rfl]; exact h1
  have x7 : ((s.extract n (n + 7)).toList == [91, 67, 68, 65, 84, 65, 91]) = false := by rw [ext_pre s n r 7 [91, 67, 68, 65, 84, 65, 91] hr (by omega) rfl]; exact h3
  have hb0 : Below w.heap.size w (w.alloc (.cells #[.int .u8 0, .string ⟨#[]⟩, .slice none 0 0, .bool false, .string ⟨#[]⟩, .string ⟨#[]⟩, .string ⟨#[]⟩, .bool false, .bool false, .bool false] 26)) := (Below.refl _ w).alloc (Nat.le_refl _) _
  have HB0 := Lib.hid hb0
  have HT0 := Lib.hid (Tb.new w)
  have CC := Lib.hid (fun w => bogusR_bg s n r (by omega) hr w)
  generalize bg r = X at *
  obtain ⟨t, k, ok⟩ := X
  dsimp only at CC ⊢
  clear KEY hr hb0 h1 h2 h3
  go_enter Tryd.func9, Tryd.ntmps9
  go_wp2_with fail
  generalize hW0 : World.alloc _ _ = W0 at *
  clear hW0
  refine (WD.out _).mono ?_
  rintro e w1 ⟨rfl, hb1⟩
  replace HT0 := Lib.hid (HT0.out.below hb1 HT0.out.lt)
  replace HB0 := Lib.hid (HB0.out.trans (hb1.mono HB0.out.size))
  clear hb1
  go_wp2_with fail
  refine (CC.out _).mono ?_
  rintro e w2 ⟨rfl, hb2⟩
  have HB2 := Lib.hid (HB0.out.trans (hb2.mono HB0.out.size))
  have HT2 := Lib.hid (HT0.out.below hb2 HT0.out.lt)
  obtain ⟨c0, c1, c2, c3, c4, c5, c6, c7, c8, c9, fz⟩ := HT2.out.cs
  clear hb2 HB0 HT0
  unfold tkCells
  go_wp2
  generalize hW3 : World.setCell _ _ _ = W3
  have hR3 : Tb w.heap.size { kind := 4, text := t } W3 := by rw [← hW3]; exact set10 HT2.out _ _ _ _ _ _ _ _ _ _
  have hB3 : Below w.heap.size w W3 := by rw [← hW3]; exact below_sets HB2.out (Nat.le_refl _) _ _ _ _ _ _ _ _ _ _
  refine bodyPost_ret (results_tok rfl rfl hR3) rfl ⟨?_, hB3⟩
  exact tok_end (by omega)

/-- At a place of the text: as the program. -/
theorem declR_in (s : ByteArray) (n : Nat) (cd : Bool) (hs : s.size ≤ 16777216) (hn : n ≤ s.size) (w : World) :
    Calls Tryd.prog 9 #[.string s, .int .i64 n, .bool cd] w (TR w (dcl cd (s.data.toList.drop n)).1 (n + (dcl cd (s.data.toList.drop n)).2.1) (dcl cd (s.data.toList.drop n)).2.2) := by
  have hr : Ps s n (s.data.toList.drop n) := ⟨hn, rfl⟩
  generalize s.data.toList.drop n = r at *
  cases h1 : Lib.hasPrefix r [45, 45] with
  | true => exact declR_comment s n cd r hs hr w h1
  | false =>
    cases h2 : wd wDoc r with
    | true => exact declR_doctype s n cd r hs hr w h2
    | false =>
      cases cd with
      | false =>
        by_cases h7 : 7 ≤ r.length
        · exact declR_bogus_false_l7 s n r hs hr w h1 h2 h7
        · by_cases h8 : 2 ≤ r.length
          · exact declR_bogus_false_s7 s n r hs hr w h1 h2 h8 (by omega)
          · exact declR_bogus_false_s2 s n r hs hr w h1 h2 (by omega)
      | true =>
        cases h3 : Lib.hasPrefix r wCd with
        | true => exact declR_cdata s n r hs hr w h1 h2 h3
        | false =>
          by_cases h7 : 7 ≤ r.length
          · exact declR_bogus_true_l7 s n r hs hr w h1 h2 h3 h7
          · by_cases h8 : 2 ≤ r.length
            · exact declR_bogus_true_s7 s n r hs hr w h1 h2 h3 h8 (by omega)
            · exact declR_bogus_true_s2 s n r hs hr w h1 h2 h3 (by omega)
end Go.Proofs.YtileclmmobkcaaaDoor
