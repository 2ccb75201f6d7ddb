/-
  The contract of mark.Declaration. The condition: the text takes at most 2 to the 28th bytes; MaxLen holds some number.
-/
import Derived.Test.YtileclmmobkcaaaDoorMdk
set_option linter.unusedVariables false
namespace Go.Proofs.YtileclmmobkcaaaDoor
open Go.RowKit Go.Shelf

set_option maxRecDepth 100000 in
theorem decl_out (s : ByteArray) (at_ : Int) (cd : Bool) (h : at_ < 0 ∨ (s.size : Int) < at_) (w : World) :
    Calls Tryd.prog 8 #[.string s, .int .i64 at_, .bool cd] w (TR w { kind := 0 } 0 false) := by
  rcases h with h | h
  · go_enter Tryd.func8, Tryd.ntmps8
    go_wp2
    exact bodyPost_ret (v := .tuple #[.agg (tkCells { kind := 0 }), .int .i64 0, .bool false]) (by simp [results, Tryd.results8, go_sem]; rfl) rfl ⟨rfl, (Below.refl _ w).alloc (Nat.le_refl _) _⟩
  · have h2 : ¬ at_ < 0 := by omega
    go_enter Tryd.func8, Tryd.ntmps8
    go_wp2
    exact bodyPost_ret (v := .tuple #[.agg (tkCells { kind := 0 }), .int .i64 0, .bool false]) (by simp [results, Tryd.results8, go_sem]; rfl) rfl ⟨rfl, (Below.refl _ w).alloc (Nat.le_refl _) _⟩

/-- How the ways end: a token has come, and is stored. -/
theorem TR.sub {w w0 : World} {t : Tk} {n : Int} {ok : Bool} {e : Ending} {w' : World} (h : TR w0 t n ok e w') (hb : Below w.heap.size w w0) : TR w t n ok e w' := ⟨h.1, hb.trans (h.2.mono hb.size)⟩

theorem wd_head (r : List UInt8) (h : wd wDoc r = true) : Lib.hasPrefix r [45, 45] = false := by
  match r, h with
  | [], _ => rfl
  | c :: r, h =>
    cases hp : Lib.hasPrefix (c :: r) [45, 45] with
    | false => rfl
    | true =>
      exfalso
      have hc : c = 45 := by
        unfold Lib.hasPrefix at hp
        simp [List.isPrefixOf] at hp
        exact hp.1.symm
      subst hc
      unfold wd at h
      simp only [Bool.and_eq_true, beq_iff_eq] at h
      have := congrArg List.head? h.2
      simp [wDoc, lw] at this
      revert this
      decide
/-- The way that the program takes. -/
structure Way (s : ByteArray) (n : Nat) (r : List UInt8) (X : ByteArray) : Prop where
  hs : s.size ≤ 268435456
  hr : Ps s n r
  hX : s.extract n s.size = X
theorem Way.hx {s : ByteArray} {n : Nat} {r : List UInt8} {X : ByteArray} (h : Way s n r X) : X.data.toList = r := by
  have := h.hr.len
  rw [← h.hX, Lib.extract_data, h.hr.eq]
  exact List.take_of_length_le (by omega)
theorem Way.hl {s : ByteArray} {n : Nat} {r : List UInt8} {X : ByteArray} (h : Way s n r X) : X.size = r.length := by rw [← h.hx]; simp

set_option maxRecDepth 100000 in
set_option maxHeartbeats 1000000 in
theorem decl_comment (s : ByteArray) (n : Nat) (cd : Bool) (r : List UInt8) (X : ByteArray) (hW : Way s n r X) (w : World) (hsh : Sh w) (h1 : Lib.hasPrefix r [45, 45] = true) :
    Calls Tryd.prog 8 #[.string s, .int .i64 n, .bool cd] w (TR w (dcl cd r).1 (n + (dcl cd r).2.1) (dcl cd r).2.2) := by
  have hn := hW.hr.le
  have hlen := hW.hr.len
  have hs := hW.hs
  obtain ⟨r2, hr2⟩ := List.isPrefixOf_iff_prefix.1 h1
  have hrl : 2 + r2.length = r.length := by rw [← hr2]; simp; omega
  have hps2 : Ps s (n + 2) r2 := by
    have := hW.hr.drop 2 (by omega)
    rwa [← hr2] at this
  have KEY : dcl cd r = ({ kind := 4, text := (cm r2).1 }, 2 + (cm r2).2.1, (cm r2).2.2) := by
    unfold dcl
    rw [if_pos h1, ← hr2]; rfl
  rw [KEY]
  have P1 := Lib.hid (fun w => hasP_calls X ⟨#[45, 45]⟩ true (by rw [hW.hx]; exact h1) w)
  have CC := Lib.hid (fun w h => comment_calls s (n + 2) r2 hs hps2 w h)
  have HX := Lib.hid hW.hX
  have HS := Lib.hid hsh
  have hb0 : Below w.heap.size w (w.alloc (.cells #[.int .u8 0, .string ⟨#[]⟩, .slice none 0 0, .bool false, .string ⟨#[]⟩, .string ⟨#[]⟩, .string ⟨#[]⟩, .bool false, .bool false, .bool false] 26)) := (Below.refl _ w).alloc (Nat.le_refl _) _
  have HB0 := Lib.hid hb0
  have HT0 := Lib.hid (Tb.new w)
  generalize cm r2 = c at *
  obtain ⟨t, k, ok⟩ := c
  dsimp only at CC ⊢
  clear hps2 KEY hr2 h1 hW hsh hb0
  go_enter Tryd.func8, Tryd.ntmps8
  go_wp2_with fail
  rw [HX.out]
  generalize hW0 : World.alloc _ _ = W0 at *
  clear hW0
  refine (P1.out _).mono ?_
  rintro e w' ⟨rfl, rfl⟩
  go_wp2_with fail
  refine (CC.out _ (HS.out.below HB0.out)).mono ?_
  rintro e w2 ⟨rfl, hb2⟩
  have HB2 := Lib.hid (HB0.out.trans (hb2.mono HB0.out.size))
  have HT2 := Lib.hid (HT0.out.below hb2 HT0.out.lt)
  obtain ⟨c0, c1, c2, c3, c4, c5, c6, c7, c8, c9, fz⟩ := HT2.out.cs
  clear hb2 HB0 HT0 HS
  unfold tkCells
  go_wp2
  generalize hW3 : World.setCell _ _ _ = W3
  have hR3 : Tb w.heap.size { kind := 4, text := t } W3 := by rw [← hW3]; exact set10 HT2.out _ _ _ _ _ _ _ _ _ _
  have hB3 : Below w.heap.size w W3 := by rw [← hW3]; exact below_sets HB2.out (Nat.le_refl _) _ _ _ _ _ _ _ _ _ _
  refine bodyPost_ret (results_tok rfl rfl hR3) rfl ⟨?_, hB3⟩
  exact tok_end (by omega)

theorem tb_drew {b : Nat} {t : Tk} {w : World} (h : Tb b t w) : Tb b t w.drew := h
theorem wd_len (W r : List UInt8) (h : wd W r = true) : W.length ≤ r.length := by
  unfold wd at h
  simp only [Bool.and_eq_true, decide_eq_true_eq] at h
  exact h.1
theorem dt_len (r : List UInt8) : (dt r).2.1.length ≤ r.length := by
  rcases hx : dt r with ⟨t, r', ok⟩
  have e : dR 0 1 0 { kind := 5 } r = (t, r', ok) := by rw [dt_dR, hx]
  cases ok with
  | false => rw [dR_open _ _ _ _ _ _ _ e]; simp
  | true =>
    obtain ⟨p, hp, _⟩ := dR_whole _ _ _ _ _ _ _ e
    rw [hp]; simp; omega

set_option maxRecDepth 100000 in
set_option maxHeartbeats 1000000 in
theorem decl_doctype (s : ByteArray) (n : Nat) (cd : Bool) (r : List UInt8) (X : ByteArray) (hW : Way s n r X) (w : World) (hsh : Sh w) (h2 : wd wDoc r = true) :
    Calls Tryd.prog 8 #[.string s, .int .i64 n, .bool cd] w (TR w (dcl cd r).1 (n + (dcl cd r).2.1) (dcl cd r).2.2) := by
  have hn := hW.hr.le
  have hlen := hW.hr.len
  have hs := hW.hs
  have h1 := wd_head r h2
  have h7 : 7 ≤ r.length := wd_len _ _ h2
  have hps2 : Ps s (n + 7) (r.drop 7) := hW.hr.drop 7 h7
  have hdl := dt_len (r.drop 7)
  have hdl2 : (r.drop 7).length = r.length - 7 := by simp
  have KEY : dcl cd r = ((dt (r.drop 7)).1, r.length - (dt (r.drop 7)).2.1.length, (dt (r.drop 7)).2.2) := by
    unfold dcl
    rw [if_neg (by rw [h1]; decide), if_pos h2]
  rw [KEY]
  have hxl := hW.hl
  have h7x : ¬ (X.size < 7) := by omega
  have h7y : 7 ≤ X.size := by omega
  have h7z : (7 : Int) ≤ (X.size : Int) := by omega
  have hX7 : (X.extract 0 7).data.toList = r.take 7 := by rw [Lib.extract_data, hW.hx]; simp
  have P1 := Lib.hid (fun w => hasP_calls X ⟨#[45, 45]⟩ false (by rw [hW.hx]; exact h1) w)
  have LO : Hid (∀ w, Calls Tryd.prog 16 #[.string (X.extract 0 7)] w fun e w' => e = .returned (.string ⟨(lwr (r.take 7)).toArray⟩) ∧ Below w.heap.size w w') := fun w => by
    have := lower_calls (X.extract 0 7) (by simp; omega) w
    rwa [hX7] at this
  have hEQ : ((⟨(lwr (r.take 7)).toArray⟩ : ByteArray).toList == [100, 111, 99, 116, 121, 112, 101]) = true := by
    rw [Lib.toList_data]
    unfold wd at h2
    simp only [Bool.and_eq_true] at h2
    exact h2.2
  have HX := Lib.hid hW.hX
  have HS := Lib.hid hsh
  have hb0 : Below w.heap.size w (w.alloc (.cells #[.int .u8 0, .string ⟨#[]⟩, .slice none 0 0, .bool false, .string ⟨#[]⟩, .string ⟨#[]⟩, .string ⟨#[]⟩, .bool false, .bool false, .bool false] 26)) := (Below.refl _ w).alloc (Nat.le_refl _) _
  have HB0 := Lib.hid hb0
  have HT0 := Lib.hid (Tb.new w)
  have HP2 := Lib.hid hps2
  generalize r.drop 7 = r7 at *
  rcases hdt : dt r7 with ⟨t, r', ok⟩
  have HDT := Lib.hid hdt
  rw [hdt] at hdl
  dsimp only at hdl ⊢
  have hshs := hsh.lt
  generalize (⟨(lwr (r.take 7)).toArray⟩ : ByteArray) = LX at *
  clear hps2 KEY h1 h2 hW hsh hb0 hX7 hdt
  go_enter Tryd.func8, Tryd.ntmps8
  go_wp2_with fail
  rw [HX.out]
  generalize hW0 : World.alloc _ _ = W0 at *
  clear hW0
  refine (P1.out _).mono ?_
  rintro e w' ⟨rfl, rfl⟩
  go_wp2_with fail
  refine (LO.out _).mono ?_
  rintro e w1 ⟨rfl, hb1⟩
  have HT1 := Lib.hid (HT0.out.below hb1 HT0.out.lt)
  have HS1 := Lib.hid ((HS.out.below HB0.out).below hb1)
  have HB1 := Lib.hid (HB0.out.trans (hb1.mono HB0.out.size))
  clear hb1 HT0 HB0
  go_wp2_with fail
  generalize hW2 : World.alloc _ _ = W2
  have hD : Dc w1.heap.size s (n + 7) { kind := 0 } W2 := by
    rw [← hW2]
    exact heap_alloc_new w1 _
  have HT2 := Lib.hid (show Tb w.heap.size { kind := 0 } W2 by rw [← hW2]; exact (Below.heap_alloc _ _ _ HT1.out.lt).trans HT1.out)
  have hbb : Below w1.heap.size w1 W2 := by rw [← hW2]; exact (Below.refl _ _).alloc (Nat.le_refl _) _
  have HS2 := Lib.hid (HS1.out.below hbb)
  have HB2 := Lib.hid (HB1.out.trans (hbb.mono HB1.out.size))
  have hDne : w.heap.size ≠ w1.heap.size := by have := HT1.out.lt; omega
  have hsz := HB1.out.size
  have hszw := HT1.out.lt
  clear hW2 hbb HT1 HS1 HB1
  refine (run_calls w1.heap.size s (n + 7) W2 r7 hs hD HP2.out HS2.out (by omega)).mono ?_
  intro e w3 hres
  obtain ⟨n', rfl, hp, hd, hg⟩ := hres
  rw [HDT.out] at hp hd
  dsimp only at hp hd
  have hT3 : Tb w.heap.size { kind := 0 } w3 := gb_block hg HT2.out hDne
  have HB3 := Lib.hid (HB2.out.trans (gb_below hg (B := w.heap.size) (by have := HB2.out.size; omega) (by omega)))
  obtain ⟨c0, c1, c2, c3, c4, c5, c6, c7, c8, c9, fz⟩ := hT3.cs
  have HT3 := Lib.hid hT3
  have x := fun j => cell_of_heap' hd j
  have x1 := hd.c1
  have x2 := hd.c2
  have x3 : w3.cell? ⟨w1.heap.size, 3, none⟩ = some (.string ⟨t.name.toArray⟩) := x 3
  have x4 : w3.cell? ⟨w1.heap.size, 4, none⟩ = some (.slice none 0 0) := x 4
  have x5 : w3.cell? ⟨w1.heap.size, 5, none⟩ = some (.bool false) := x 5
  have x6 : w3.cell? ⟨w1.heap.size, 6, none⟩ = some (.string ⟨t.text.toArray⟩) := x 6
  have x7 := hd.c7
  have x8 := hd.c8
  have x9 := hd.c9
  have x10 := hd.c10
  have x11 := hd.c11
  have hpl := hp.len
  rw [HDT.out]
  clear x hd hg hp hT3 HT2 HB2 HS2 HS HDT hD
  go_wp2
  go_region
  go_wp2
  generalize hW4 : World.drew _ = W4
  have hR4 : Tb w.heap.size t W4 := by
    rw [← hW4]
    refine tb_drew ?_
    exact set10 HT3.out _ _ _ _ _ _ _ _ _ _
  have hB4 : Below w.heap.size w W4 := by
    rw [← hW4]
    refine Below.drew ?_
    exact below_sets HB3.out (Nat.le_refl _) _ _ _ _ _ _ _ _ _ _
  refine bodyPost_ret (results_tok rfl rfl hR4) rfl ⟨?_, hB4⟩
  exact tok_end (by omega)

theorem cdt_cut (r : List UInt8) : ∃ Y, Lib.cut r [93, 93, 62] = ((cdt r).1, Y, (cdt r).2.2) := by
  unfold cdt Lib.cut
  split
  · exact ⟨_, rfl⟩
  · exact ⟨_, rfl⟩
theorem cdt_len (r : List UInt8) : (cdt r).2.1 = (cdt r).1.length + (if (cdt r).2.2 then 3 else 0) ∧ (cdt r).1.length ≤ r.length := by
  unfold cdt
  split
  · rename_i h
    have := Lib.index_room r [93, 93, 62] h
    simp only [List.length_cons, List.length_nil] at this
    simp
    omega
  · simp

set_option maxRecDepth 100000 in
set_option maxHeartbeats 1000000 in
theorem decl_cdata (s : ByteArray) (n : Nat) (r : List UInt8) (X : ByteArray) (hW : Way s n r X) (w : World) (hsh : Sh w) (h1 : Lib.hasPrefix r [45, 45] = false) (h2 : wd wDoc r = false) (h3 : Lib.hasPrefix r wCd = true) :
    Calls Tryd.prog 8 #[.string s, .int .i64 n, .bool true] w (TR w (dcl true r).1 (n + (dcl true r).2.1) (dcl true r).2.2) := by
  have hn := hW.hr.le
  have hlen := hW.hr.len
  have hs := hW.hs
  have hxl := hW.hl
  obtain ⟨r2, hr2⟩ := List.isPrefixOf_iff_prefix.1 h3
  have hrl : 7 + r2.length = r.length := by rw [← hr2]; simp [wCd]; omega
  have KEY : dcl true r = ({ kind := 1, text := (cdt r2).1 }, 7 + (cdt r2).2.1, (cdt r2).2.2) := by
    unfold dcl
    rw [if_neg (by rw [h1]; decide), if_neg (by rw [h2]; decide), if_pos (by rw [h3]; rfl), ← hr2]; rfl
  rw [KEY]
  have h7y : 7 ≤ X.size := by omega
  have h7z : (7 : Int) ≤ (X.size : Int) := by omega
  have hX7 : (X.extract 0 7).data.toList = r.take 7 := by rw [Lib.extract_data, hW.hx]; simp
  have hXr : (X.extract 7 X.size).data.toList = r2 := by
    rw [Lib.extract_data, hW.hx, ← hr2]
    have : (wCd ++ r2).drop 7 = r2 := rfl
    rw [this]
    exact List.take_of_length_le (by omega)
  obtain ⟨Y, hY⟩ := cdt_cut r2
  have P1 := Lib.hid (fun w => hasP_calls X ⟨#[45, 45]⟩ false (by rw [hW.hx]; exact h1) w)
  have P3 := Lib.hid (fun w => hasP_calls X ⟨#[91, 67, 68, 65, 84, 65, 91]⟩ true (by rw [hW.hx]; exact h3) w)
  have CU : Hid (∀ w, Sh w → Calls Tryd.prog 18 #[.string (X.extract 7 X.size), .string ⟨#[93, 93, 62]⟩] w fun e w' => e = .returned (.tuple #[.string ⟨((cdt r2).1).toArray⟩, .string ⟨Y.toArray⟩, .bool (cdt r2).2.2]) ∧ Below w.heap.size w w') := fun w h =>
    cut_calls _ (by simp; omega) ⟨#[93, 93, 62]⟩ w h _ _ _ (by rw [hXr]; exact hY)
  have LO : Hid (∀ w, Calls Tryd.prog 16 #[.string (X.extract 0 7)] w fun e w' => e = .returned (.string ⟨(lwr (r.take 7)).toArray⟩) ∧ Below w.heap.size w w') := fun w => by
    have := lower_calls (X.extract 0 7) (by simp; omega) w
    rwa [hX7] at this
  have hEQ : ((⟨(lwr (r.take 7)).toArray⟩ : ByteArray).toList == [100, 111, 99, 116, 121, 112, 101]) = false := by
    rw [Lib.toList_data]
    have h2' := wd_long wDoc r (by rw [← hrl]; simp [wDoc])
    rw [h2] at h2'
    exact h2'.symm
  have hcl := cdt_len r2
  have HX := Lib.hid hW.hX
  have HS := Lib.hid hsh
  have hb0 : Below w.heap.size w (w.alloc (.cells #[.int .u8 0, .string ⟨#[]⟩, .slice none 0 0, .bool false, .string ⟨#[]⟩, .string ⟨#[]⟩, .string ⟨#[]⟩, .bool false, .bool false, .bool false] 26)) := (Below.refl _ w).alloc (Nat.le_refl _) _
  have HB0 := Lib.hid hb0
  have HT0 := Lib.hid (Tb.new w)
  generalize (⟨(lwr (r.take 7)).toArray⟩ : ByteArray) = LX at *
  rcases hcd : cdt r2 with ⟨t, k, ok⟩
  rw [hcd] at CU hcl
  dsimp only at CU hcl ⊢
  obtain ⟨hk, htl⟩ := hcl
  have hts := size_arr t
  have hxl1 : X.size ≤ r.length := by omega
  clear KEY h1 h2 h3 hW hsh hb0 hX7 hcd hXr hY hr2 hxl
  cases ok with
  | true =>
    rw [if_pos rfl] at hk
    have HK := Lib.hid hk
    clear hk
    go_enter Tryd.func8, Tryd.ntmps8
    go_wp2_with fail
    rw [HX.out]
    generalize hW0 : World.alloc _ _ = W0 at *
    clear hW0
    refine (P1.out _).mono ?_
    rintro e w' ⟨rfl, rfl⟩
    go_wp2_with fail
    refine (LO.out _).mono ?_
    rintro e w1 ⟨rfl, hb1⟩
    have HT1 := Lib.hid (HT0.out.below hb1 HT0.out.lt)
    have HS1 := Lib.hid ((HS.out.below HB0.out).below hb1)
    have HB1 := Lib.hid (HB0.out.trans (hb1.mono HB0.out.size))
    clear hb1 HT0 HB0
    go_wp2_with fail
    refine (P3.out _).mono ?_
    rintro e w' ⟨rfl, rfl⟩
    go_wp2_with fail
    refine (CU.out _ HS1.out).mono ?_
    rintro e w2 ⟨rfl, hb2⟩
    have HB2 := Lib.hid (HB1.out.trans (hb2.mono HB1.out.size))
    have HT2 := Lib.hid (HT1.out.below hb2 HT1.out.lt)
    obtain ⟨c0, c1, c2, c3, c4, c5, c6, c7, c8, c9, fz⟩ := HT2.out.cs
    clear hb2 HT1 HB1 HS HS1
    go_wp2
    generalize hW3 : World.setCell _ _ _ = W3
    have hR3 : Tb w.heap.size { kind := 1, text := t } W3 := by rw [← hW3]; exact set10 HT2.out _ _ _ _ _ _ _ _ _ _
    have hB3 : Below w.heap.size w W3 := by rw [← hW3]; exact below_sets HB2.out (Nat.le_refl _) _ _ _ _ _ _ _ _ _ _
    refine bodyPost_ret (results_tok rfl rfl hR3) rfl ⟨?_, hB3⟩
    exact tok_end (by rw [HK.out]; omega)
  | false =>
    rw [if_neg (by decide)] at hk
    have HK := Lib.hid hk
    clear hk
    go_enter Tryd.func8, Tryd.ntmps8
    go_wp2_with fail
    rw [HX.out]
    generalize hW0 : World.alloc _ _ = W0 at *
    clear hW0
    refine (P1.out _).mono ?_
    rintro e w' ⟨rfl, rfl⟩
    go_wp2_with fail
    refine (LO.out _).mono ?_
    rintro e w1 ⟨rfl, hb1⟩
    have HT1 := Lib.hid (HT0.out.below hb1 HT0.out.lt)
    have HS1 := Lib.hid ((HS.out.below HB0.out).below hb1)
    have HB1 := Lib.hid (HB0.out.trans (hb1.mono HB0.out.size))
    clear hb1 HT0 HB0
    go_wp2_with fail
    refine (P3.out _).mono ?_
    rintro e w' ⟨rfl, rfl⟩
    go_wp2_with fail
    refine (CU.out _ HS1.out).mono ?_
    rintro e w2 ⟨rfl, hb2⟩
    have HB2 := Lib.hid (HB1.out.trans (hb2.mono HB1.out.size))
    have HT2 := Lib.hid (HT1.out.below hb2 HT1.out.lt)
    obtain ⟨c0, c1, c2, c3, c4, c5, c6, c7, c8, c9, fz⟩ := HT2.out.cs
    clear hb2 HT1 HB1 HS HS1
    go_wp2
    generalize hW3 : World.setCell _ _ _ = W3
    have hR3 : Tb w.heap.size { kind := 1, text := t } W3 := by rw [← hW3]; exact set10 HT2.out _ _ _ _ _ _ _ _ _ _
    have hB3 : Below w.heap.size w W3 := by rw [← hW3]; exact below_sets HB2.out (Nat.le_refl _) _ _ _ _ _ _ _ _ _ _
    refine bodyPost_ret (results_tok rfl rfl hR3) rfl ⟨?_, hB3⟩
    exact tok_end (by rw [HK.out]; omega)
end Go.Proofs.YtileclmmobkcaaaDoor
