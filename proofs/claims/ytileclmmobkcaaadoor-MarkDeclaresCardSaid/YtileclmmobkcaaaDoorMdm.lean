/-
  The contract of mark.Declaration at every place of every text. The condition: the text takes at most 2 to the 28th bytes; MaxLen holds some number.
-/
import Derived.Test.YtileclmmobkcaaaDoorMdl
set_option linter.unusedVariables false
namespace Go.Proofs.YtileclmmobkcaaaDoor
open Go.RowKit Go.Shelf


set_option maxRecDepth 100000 in
set_option maxHeartbeats 1000000 in
theorem decl_bogus_sc (s : ByteArray) (n : Nat) (r : List UInt8) (X : ByteArray) (hW : Way s n r X) (w : World) (hsh : Sh w) (h1 : Lib.hasPrefix r [45, 45] = false) (h2 : wd wDoc r = false) (h3 : Lib.hasPrefix r wCd = false) (h7 : r.length < 7) :
    Calls Tryd.prog 8 #[.string s, .int .i64 n, .bool true] w (TR w (dcl true r).1 (n + (dcl true r).2.1) (dcl true r).2.2) := by
  have hn := hW.hr.le
  have hlen := hW.hr.len
  have hs := hW.hs
  have hxl := hW.hl
  have KEY : dcl true r = ({ kind := 4, text := (bg r).1 }, (bg r).2.1, (bg r).2.2) := by
    unfold dcl
    rw [if_neg (by rw [h1]; decide), if_neg (by rw [h2]; decide), if_neg (by rw [h3]; decide)]
  rw [KEY]
  have h7x : X.size < 7 := by omega
  have h7y : ¬ (7 ≤ X.size) := by omega
  have h7z : ¬ ((7 : Int) ≤ (X.size : Int)) := by omega
  have P1 := Lib.hid (fun w => hasP_calls X ⟨#[45, 45]⟩ false (by rw [hW.hx]; exact h1) w)
  have P3 := Lib.hid (fun w => hasP_calls X ⟨#[91, 67, 68, 65, 84, 65, 91]⟩ false (by rw [hW.hx]; exact h3) w)
  have BG := Lib.hid (fun w h => bogus_in s n r hs hW.hr w h)
  have HX := Lib.hid hW.hX
  have HS := Lib.hid hsh
  have hb0 : Below w.heap.size w (w.alloc (.cells #[.int .u8 0, .string ⟨#[]⟩, .slice none 0 0, .bool false, .string ⟨#[]⟩, .string ⟨#[]⟩, .string ⟨#[]⟩, .bool false, .bool false, .bool false] 26)) := (Below.refl _ w).alloc (Nat.le_refl _) _
  have HB0 := Lib.hid hb0
  have HT0 := Lib.hid (Tb.new w)
  generalize bg r = b at *
  obtain ⟨t, k, ok⟩ := b
  dsimp only at BG ⊢
  clear KEY h1 h2 h3 hW hsh hb0 hxl
  go_enter Tryd.func8, Tryd.ntmps8
  go_wp2_with fail
  rw [HX.out]
  generalize hW0 : World.alloc _ _ = W0 at *
  clear hW0
  refine (P1.out _).mono ?_
  rintro e w' ⟨rfl, rfl⟩
  replace HS := Lib.hid (HS.out.below HB0.out)
  go_wp2_with fail
  refine (P3.out _).mono ?_
  rintro e w' ⟨rfl, rfl⟩
  go_wp2_with fail
  refine (BG.out _ HS.out).mono ?_
  rintro e w2 ⟨rfl, hb2⟩
  have HB2 := Lib.hid (HB0.out.trans (hb2.mono HB0.out.size))
  have HT2 := Lib.hid (HT0.out.below hb2 HT0.out.lt)
  obtain ⟨c0, c1, c2, c3, c4, c5, c6, c7, c8, c9, fz⟩ := HT2.out.cs
  clear hb2 HT0 HB0 HS
  unfold tkCells
  go_wp2
  generalize hW3 : World.setCell _ _ _ = W3
  have hR3 : Tb w.heap.size { kind := 4, text := t } W3 := by rw [← hW3]; exact set10 HT2.out _ _ _ _ _ _ _ _ _ _
  have hB3 : Below w.heap.size w W3 := by rw [← hW3]; exact below_sets HB2.out (Nat.le_refl _) _ _ _ _ _ _ _ _ _ _
  refine bodyPost_ret (results_tok rfl rfl hR3) rfl ⟨?_, hB3⟩
  exact tok_end (by omega)

set_option maxRecDepth 100000 in
set_option maxHeartbeats 1000000 in
theorem decl_bogus_sp (s : ByteArray) (n : Nat) (r : List UInt8) (X : ByteArray) (hW : Way s n r X) (w : World) (hsh : Sh w) (h1 : Lib.hasPrefix r [45, 45] = false) (h2 : wd wDoc r = false) (h7 : r.length < 7) :
    Calls Tryd.prog 8 #[.string s, .int .i64 n, .bool false] w (TR w (dcl false r).1 (n + (dcl false r).2.1) (dcl false r).2.2) := by
  have hn := hW.hr.le
  have hlen := hW.hr.len
  have hs := hW.hs
  have hxl := hW.hl
  have KEY : dcl false r = ({ kind := 4, text := (bg r).1 }, (bg r).2.1, (bg r).2.2) := by
    unfold dcl
    rw [if_neg (by rw [h1]; decide), if_neg (by rw [h2]; decide), if_neg (by simp)]
  rw [KEY]
  have h7x : X.size < 7 := by omega
  have h7y : ¬ (7 ≤ X.size) := by omega
  have h7z : ¬ ((7 : Int) ≤ (X.size : Int)) := by omega
  have P1 := Lib.hid (fun w => hasP_calls X ⟨#[45, 45]⟩ false (by rw [hW.hx]; exact h1) w)
  have BG := Lib.hid (fun w h => bogus_in s n r hs hW.hr w h)
  have HX := Lib.hid hW.hX
  have HS := Lib.hid hsh
  have hb0 : Below w.heap.size w (w.alloc (.cells #[.int .u8 0, .string ⟨#[]⟩, .slice none 0 0, .bool false, .string ⟨#[]⟩, .string ⟨#[]⟩, .string ⟨#[]⟩, .bool false, .bool false, .bool false] 26)) := (Below.refl _ w).alloc (Nat.le_refl _) _
  have HB0 := Lib.hid hb0
  have HT0 := Lib.hid (Tb.new w)
  generalize bg r = b at *
  obtain ⟨t, k, ok⟩ := b
  dsimp only at BG ⊢
  clear KEY h1 h2 hW hsh hb0 hxl
  go_enter Tryd.func8, Tryd.ntmps8
  go_wp2_with fail
  rw [HX.out]
  generalize hW0 : World.alloc _ _ = W0 at *
  clear hW0
  refine (P1.out _).mono ?_
  rintro e w' ⟨rfl, rfl⟩
  replace HS := Lib.hid (HS.out.below HB0.out)
  go_wp2_with fail
  refine (BG.out _ HS.out).mono ?_
  rintro e w2 ⟨rfl, hb2⟩
  have HB2 := Lib.hid (HB0.out.trans (hb2.mono HB0.out.size))
  have HT2 := Lib.hid (HT0.out.below hb2 HT0.out.lt)
  obtain ⟨c0, c1, c2, c3, c4, c5, c6, c7, c8, c9, fz⟩ := HT2.out.cs
  clear hb2 HT0 HB0 HS
  unfold tkCells
  go_wp2
  generalize hW3 : World.setCell _ _ _ = W3
  have hR3 : Tb w.heap.size { kind := 4, text := t } W3 := by rw [← hW3]; exact set10 HT2.out _ _ _ _ _ _ _ _ _ _
  have hB3 : Below w.heap.size w W3 := by rw [← hW3]; exact below_sets HB2.out (Nat.le_refl _) _ _ _ _ _ _ _ _ _ _
  refine bodyPost_ret (results_tok rfl rfl hR3) rfl ⟨?_, hB3⟩
  exact tok_end (by omega)

set_option maxRecDepth 100000 in
set_option maxHeartbeats 1000000 in
theorem decl_bogus_lc (s : ByteArray) (n : Nat) (r : List UInt8) (X : ByteArray) (hW : Way s n r X) (w : World) (hsh : Sh w) (h1 : Lib.hasPrefix r [45, 45] = false) (h2 : wd wDoc r = false) (h3 : Lib.hasPrefix r wCd = false) (h7 : 7 ≤ r.length) :
    Calls Tryd.prog 8 #[.string s, .int .i64 n, .bool true] w (TR w (dcl true r).1 (n + (dcl true r).2.1) (dcl true r).2.2) := by
  have hn := hW.hr.le
  have hlen := hW.hr.len
  have hs := hW.hs
  have hxl := hW.hl
  have KEY : dcl true r = ({ kind := 4, text := (bg r).1 }, (bg r).2.1, (bg r).2.2) := by
    unfold dcl
    rw [if_neg (by rw [h1]; decide), if_neg (by rw [h2]; decide), if_neg (by rw [h3]; decide)]
  rw [KEY]
  have h7y : 7 ≤ X.size := by omega
  have h7z : (7 : Int) ≤ (X.size : Int) := by omega
  have hX7 : (X.extract 0 7).data.toList = r.take 7 := by rw [Lib.extract_data, hW.hx]; simp
  have LO : Hid (∀ w, Calls Tryd.prog 16 #[.string (X.extract 0 7)] w fun e w' => e = .returned (.string ⟨(lwr (r.take 7)).toArray⟩) ∧ Below w.heap.size w w') := fun w => by
    have := lower_calls (X.extract 0 7) (by simp; omega) w
    rwa [hX7] at this
  have hEQ : ((⟨(lwr (r.take 7)).toArray⟩ : ByteArray).toList == [100, 111, 99, 116, 121, 112, 101]) = false := by
    rw [Lib.toList_data]
    have h2' := wd_long wDoc r h7
    rw [h2] at h2'
    exact h2'.symm
  generalize (⟨(lwr (r.take 7)).toArray⟩ : ByteArray) = LX at *
  clear hX7
  have P1 := Lib.hid (fun w => hasP_calls X ⟨#[45, 45]⟩ false (by rw [hW.hx]; exact h1) w)
  have P3 := Lib.hid (fun w => hasP_calls X ⟨#[91, 67, 68, 65, 84, 65, 91]⟩ false (by rw [hW.hx]; exact h3) w)
  have BG := Lib.hid (fun w h => bogus_in s n r hs hW.hr w h)
  have HX := Lib.hid hW.hX
  have HS := Lib.hid hsh
  have hb0 : Below w.heap.size w (w.alloc (.cells #[.int .u8 0, .string ⟨#[]⟩, .slice none 0 0, .bool false, .string ⟨#[]⟩, .string ⟨#[]⟩, .string ⟨#[]⟩, .bool false, .bool false, .bool false] 26)) := (Below.refl _ w).alloc (Nat.le_refl _) _
  have HB0 := Lib.hid hb0
  have HT0 := Lib.hid (Tb.new w)
  generalize bg r = b at *
  obtain ⟨t, k, ok⟩ := b
  dsimp only at BG ⊢
  clear KEY h1 h2 h3 hW hsh hb0 hxl
  go_enter Tryd.func8, Tryd.ntmps8
  go_wp2_with fail
  rw [HX.out]
  generalize hW0 : World.alloc _ _ = W0 at *
  clear hW0
  refine (P1.out _).mono ?_
  rintro e w' ⟨rfl, rfl⟩
  go_wp2_with fail
  refine (LO.out _).mono ?_
  rintro e w1 ⟨rfl, hb1⟩
  replace HT0 := Lib.hid (HT0.out.below hb1 HT0.out.lt)
  replace HS := Lib.hid ((HS.out.below HB0.out).below hb1)
  replace HB0 := Lib.hid (HB0.out.trans (hb1.mono HB0.out.size))
  clear hb1
  go_wp2_with fail
  refine (P3.out _).mono ?_
  rintro e w' ⟨rfl, rfl⟩
  go_wp2_with fail
  refine (BG.out _ HS.out).mono ?_
  rintro e w2 ⟨rfl, hb2⟩
  have HB2 := Lib.hid (HB0.out.trans (hb2.mono HB0.out.size))
  have HT2 := Lib.hid (HT0.out.below hb2 HT0.out.lt)
  obtain ⟨c0, c1, c2, c3, c4, c5, c6, c7, c8, c9, fz⟩ := HT2.out.cs
  clear hb2 HT0 HB0 HS
  unfold tkCells
  go_wp2
  generalize hW3 : World.setCell _ _ _ = W3
  have hR3 : Tb w.heap.size { kind := 4, text := t } W3 := by rw [← hW3]; exact set10 HT2.out _ _ _ _ _ _ _ _ _ _
  have hB3 : Below w.heap.size w W3 := by rw [← hW3]; exact below_sets HB2.out (Nat.le_refl _) _ _ _ _ _ _ _ _ _ _
  refine bodyPost_ret (results_tok rfl rfl hR3) rfl ⟨?_, hB3⟩
  exact tok_end (by omega)

set_option maxRecDepth 100000 in
set_option maxHeartbeats 1000000 in
theorem decl_bogus_lp (s : ByteArray) (n : Nat) (r : List UInt8) (X : ByteArray) (hW : Way s n r X) (w : World) (hsh : Sh w) (h1 : Lib.hasPrefix r [45, 45] = false) (h2 : wd wDoc r = false) (h7 : 7 ≤ r.length) :
    Calls Tryd.prog 8 #[.string s, .int .i64 n, .bool false] w (TR w (dcl false r).1 (n + (dcl false r).2.1) (dcl false r).2.2) := by
  have hn := hW.hr.le
  have hlen := hW.hr.len
  have hs := hW.hs
  have hxl := hW.hl
  have KEY : dcl false r = ({ kind := 4, text := (bg r).1 }, (bg r).2.1, (bg r).2.2) := by
    unfold dcl
    rw [if_neg (by rw [h1]; decide), if_neg (by rw [h2]; decide), if_neg (by simp)]
  rw [KEY]
  have h7y : 7 ≤ X.size := by omega
  have h7z : (7 : Int) ≤ (X.size : Int) := by omega
  have hX7 : (X.extract 0 7).data.toList = r.take 7 := by rw [Lib.extract_data, hW.hx]; simp
  have LO : Hid (∀ w, Calls Tryd.prog 16 #[.string (X.extract 0 7)] w fun e w' => e = .returned (.string ⟨(lwr (r.take 7)).toArray⟩) ∧ Below w.heap.size w w') := fun w => by
    have := lower_calls (X.extract 0 7) (by simp; omega) w
    rwa [hX7] at this
  have hEQ : ((⟨(lwr (r.take 7)).toArray⟩ : ByteArray).toList == [100, 111, 99, 116, 121, 112, 101]) = false := by
    rw [Lib.toList_data]
    have h2' := wd_long wDoc r h7
    rw [h2] at h2'
    exact h2'.symm
  generalize (⟨(lwr (r.take 7)).toArray⟩ : ByteArray) = LX at *
  clear hX7
  have P1 := Lib.hid (fun w => hasP_calls X ⟨#[45, 45]⟩ false (by rw [hW.hx]; exact h1) w)
  have BG := Lib.hid (fun w h => bogus_in s n r hs hW.hr w h)
  have HX := Lib.hid hW.hX
  have HS := Lib.hid hsh
  have hb0 : Below w.heap.size w (w.alloc (.cells #[.int .u8 0, .string ⟨#[]⟩, .slice none 0 0, .bool false, .string ⟨#[]⟩, .string ⟨#[]⟩, .string ⟨#[]⟩, .bool false, .bool false, .bool false] 26)) := (Below.refl _ w).alloc (Nat.le_refl _) _
  have HB0 := Lib.hid hb0
  have HT0 := Lib.hid (Tb.new w)
  generalize bg r = b at *
  obtain ⟨t, k, ok⟩ := b
  dsimp only at BG ⊢
  clear KEY h1 h2 hW hsh hb0 hxl
  go_enter Tryd.func8, Tryd.ntmps8
  go_wp2_with fail
  rw [HX.out]
  generalize hW0 : World.alloc _ _ = W0 at *
  clear hW0
  refine (P1.out _).mono ?_
  rintro e w' ⟨rfl, rfl⟩
  go_wp2_with fail
  refine (LO.out _).mono ?_
  rintro e w1 ⟨rfl, hb1⟩
  replace HT0 := Lib.hid (HT0.out.below hb1 HT0.out.lt)
  replace HS := Lib.hid ((HS.out.below HB0.out).below hb1)
  replace HB0 := Lib.hid (HB0.out.trans (hb1.mono HB0.out.size))
  clear hb1
  go_wp2_with fail
  refine (BG.out _ HS.out).mono ?_
  rintro e w2 ⟨rfl, hb2⟩
  have HB2 := Lib.hid (HB0.out.trans (hb2.mono HB0.out.size))
  have HT2 := Lib.hid (HT0.out.below hb2 HT0.out.lt)
  obtain ⟨c0, c1, c2, c3, c4, c5, c6, c7, c8, c9, fz⟩ := HT2.out.cs
  clear hb2 HT0 HB0 HS
  unfold tkCells
  go_wp2
  generalize hW3 : World.setCell _ _ _ = W3
  have hR3 : Tb w.heap.size { kind := 4, text := t } W3 := by rw [← hW3]; exact set10 HT2.out _ _ _ _ _ _ _ _ _ _
  have hB3 : Below w.heap.size w W3 := by rw [← hW3]; exact below_sets HB2.out (Nat.le_refl _) _ _ _ _ _ _ _ _ _ _
  refine bodyPost_ret (results_tok rfl rfl hR3) rfl ⟨?_, hB3⟩
  exact tok_end (by omega)

/-- At a place of the text. -/
theorem decl_in (s : ByteArray) (n : Nat) (cd : Bool) (hs : s.size ≤ 268435456) (hn : n ≤ s.size) (w : World) (hsh : Sh w) :
    Calls Tryd.prog 8 #[.string s, .int .i64 n, .bool cd] w (TR w (dcl cd (s.data.toList.drop n)).1 (n + (dcl cd (s.data.toList.drop n)).2.1) (dcl cd (s.data.toList.drop n)).2.2) := by
  have hW : Way s n (s.data.toList.drop n) (s.extract n s.size) := ⟨hs, ⟨hn, rfl⟩, rfl⟩
  generalize s.data.toList.drop n = r at *
  cases h1 : Lib.hasPrefix r [45, 45] with
  | true => exact decl_comment s n cd r _ hW w hsh h1
  | false =>
    cases h2 : wd wDoc r with
    | true => exact decl_doctype s n cd r _ hW w hsh h2
    | false =>
      by_cases h7 : r.length < 7
      · cases cd with
        | false => exact decl_bogus_sp s n r _ hW w hsh h1 h2 h7
        | true =>
          cases h3 : Lib.hasPrefix r wCd with
          | true => exact decl_cdata s n r _ hW w hsh h1 h2 h3
          | false => exact decl_bogus_sc s n r _ hW w hsh h1 h2 h3 h7
      · cases cd with
        | false => exact decl_bogus_lp s n r _ hW w hsh h1 h2 (by omega)
        | true =>
          cases h3 : Lib.hasPrefix r wCd with
          | true => exact decl_cdata s n r _ hW w hsh h1 h2 h3
          | false => exact decl_bogus_lc s n r _ hW w hsh h1 h2 h3 (by omega)
end Go.Proofs.YtileclmmobkcaaaDoor
