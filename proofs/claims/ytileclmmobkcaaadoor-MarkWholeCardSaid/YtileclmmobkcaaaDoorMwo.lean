/-
  The walk of lacunalaw04.MarkWhole: it returns true. The condition: MaxLen holds some number.
-/
import Derived.Test.YtileclmmobkcaaaDoorMwk
import Derived.Test.YtileclmmobkcaaaDoorMsm
set_option linter.unusedVariables false
namespace Go.Proofs.YtileclmmobkcaaaDoor
open Go.RowKit Go.Shelf

/-- A new token's block. -/
theorem Tb.fresh (w : World) (t : Tk) : Tb w.heap.size t (w.alloc (.cells (tkCells t) 26)) := heap_alloc_new w _

theorem tb_alloc {b : Nat} {t : Tk} {w : World} (h : Tb b t w) (o : Obj) : Tb b t (w.alloc o) := (Below.heap_alloc w o b h.lt).trans h

set_option maxRecDepth 100000 in
set_option maxHeartbeats 4000000 in
theorem whole_walk (s more : ByteArray) (cd : Bool) (w : World) (hsh : Sh w) :
    Calls Tryd.prog 4 #[.string s, .string more, .bool cd] w fun e w' => e = .returned (.bool true) ∧ Below w.heap.size w w' := by
  have HS := Lib.hid hsh
  clear hsh
  by_cases h1 : 8192 < s.size
  · have h1' : (8192 : Int) < s.size := by omega
    go_enter Tryd.func4, Tryd.ntmps4
    go_wp2_with fail
    refine (works_calls _ HS.out).mono ?_
    rintro e w1 ⟨rfl, hb1⟩
    have HB1 := Lib.hid hb1
    clear hb1
    go_wp2
    go_ret
    exact ⟨rfl, HB1.out⟩
  have h1' : ¬ ((8192 : Int) < s.size) := by omega
  by_cases h2 : 8192 < more.size
  · have h2' : (8192 : Int) < more.size := by omega
    go_enter Tryd.func4, Tryd.ntmps4
    go_wp2_with fail
    refine (works_calls _ HS.out).mono ?_
    rintro e w1 ⟨rfl, hb1⟩
    have HB1 := Lib.hid hb1
    clear hb1
    go_wp2
    go_ret
    exact ⟨rfl, HB1.out⟩
  have h2' : ¬ ((8192 : Int) < more.size) := by omega
  rcases hd : dcl cd s.data.toList with ⟨t, k, ok⟩
  have hsl : s.data.toList.length = s.size := by simp
  cases ok with
  | false =>
    have hk := dcl_open _ _ _ _ hd
    have DC := Lib.hid (fun w h => decl_conc s cd (by omega) t k false hd (s.size : Int) (by omega) w h)
    clear hk hd hsl
    go_enter Tryd.func4, Tryd.ntmps4
    go_wp2_with fail
    refine (works_calls _ HS.out).mono ?_
    rintro e w1 ⟨rfl, hb1⟩
    have HB1 := Lib.hid hb1
    replace HS := Lib.hid (HS.out.below hb1)
    clear hb1
    go_wp2_with fail
    refine (DC.out _ HS.out).mono ?_
    rintro e w2 ⟨rfl, hb2⟩
    have HB2 := Lib.hid (HB1.out.trans (hb2.mono HB1.out.size))
    clear hb2
    unfold tkCells
    go_wp2
    go_ret
    exact ⟨rfl, HB2.out.alloc HB2.out.size _⟩
  | true =>
    obtain ⟨p, r', hp, hk, hx⟩ := dcl_whole _ _ _ _ hd
    have hpl : p.length + 1 + r'.length = s.size := by rw [← hsl, hp]; simp; omega
    have hks : k ≤ s.size := by omega
    have hk0 : 0 < k := by omega
    have hk0' : (0 : Int) < (k : Int) := by omega
    have hks' : (k : Int) ≤ (s.size : Int) := by omega
    have hms : (s ++ more).size ≤ 268435456 := by simp; omega
    have hes : (s.extract 0 k).size ≤ 268435456 := by simp; omega
    have e1 : (s ++ more).data.toList = p ++ 62 :: (r' ++ more.data.toList) := by
      have : (s ++ more).data.toList = s.data.toList ++ more.data.toList := by simp
      rw [this, hp]; simp
    have e2 : (s.extract 0 k).data.toList = p ++ 62 :: [] := by
      rw [Lib.extract_data, List.drop_zero, hp, hk]
      have e : p ++ 62 :: r' = (p ++ [62]) ++ r' := by simp
      have hl : p.length + 1 - 0 = (p ++ [62]).length := by simp
      rw [e, hl, List.take_left]
    have D1 := Lib.hid (fun w h => decl_conc s cd (by omega) t k true hd (k : Nat) rfl w h)
    have D2 := Lib.hid (fun w h => decl_conc (s ++ more) cd hms t k true (by rw [e1]; exact hx _) (k : Nat) rfl w h)
    have D3 := Lib.hid (fun w h => decl_conc (s.extract 0 k) cd hes t k true (by rw [e2]; exact hx _) (k : Nat) rfl w h)
    clear hp hk hx hd hsl e1 e2 hpl
    go_enter Tryd.func4, Tryd.ntmps4
    go_wp2_with fail
    refine (works_calls _ HS.out).mono ?_
    rintro e w1 ⟨rfl, hb1⟩
    have HB := Lib.hid hb1
    replace HS := Lib.hid (HS.out.below hb1)
    clear hb1
    -- the text itself
    go_wp2_with fail
    refine (D1.out _ HS.out).mono ?_
    rintro e v1 ⟨rfl, hb⟩
    replace HS := Lib.hid ((HS.out.below hb).below ((Below.refl _ _).alloc (Nat.le_refl _) (.cells (tkCells t) 26)))
    replace HB := Lib.hid (HB.out.trans (hb.mono HB.out.size))
    have hbn := HB.out.alloc HB.out.size (.cells (tkCells t) 26)
    have hn1 := Tb.fresh v1 t
    clear hb
    unfold tkCells at hbn hn1 HS ⊢
    go_wp2_with fail
    generalize hW1 : World.alloc _ _ = W1 at *
    clear hW1
    replace HB := Lib.hid hbn
    have T1 : Hid (Tb v1.heap.size t W1) := hn1
    clear hbn hn1
    -- with more behind
    refine (D2.out _ HS.out).mono ?_
    rintro e v2 ⟨rfl, hb⟩
    replace HS := Lib.hid ((HS.out.below hb).below ((Below.refl _ _).alloc (Nat.le_refl _) (.cells (tkCells t) 26)))
    replace HB := Lib.hid (HB.out.trans (hb.mono HB.out.size))
    replace T1 := Lib.hid (tb_alloc (T1.out.below hb T1.out.lt) (.cells (tkCells t) 26))
    have hbn := HB.out.alloc HB.out.size (.cells (tkCells t) 26)
    have hn2 := Tb.fresh v2 t
    clear hb
    unfold tkCells at hbn hn2 HS T1 ⊢
    go_wp2_with fail
    generalize hW2 : World.alloc _ _ = W2 at *
    clear hW2
    replace HB := Lib.hid hbn
    have T2 : Hid (Tb v2.heap.size t W2) := hn2
    clear hbn hn2
    -- cut
    refine (D3.out _ HS.out).mono ?_
    rintro e v3 ⟨rfl, hb⟩
    replace HB := Lib.hid (HB.out.trans (hb.mono HB.out.size))
    replace T1 := Lib.hid (tb_alloc (T1.out.below hb T1.out.lt) (.cells (tkCells t) 26))
    replace T2 := Lib.hid (tb_alloc (T2.out.below hb T2.out.lt) (.cells (tkCells t) 26))
    have hbn := HB.out.alloc HB.out.size (.cells (tkCells t) 26)
    have hn3 := Tb.fresh v3 t
    obtain ⟨c0, c1, c2, c3, c4, c5, c6, c7, c8, c9, fz⟩ := T1.out.cs
    obtain ⟨d0, d1, d2, d3, d4, d5, d6, d7, d8, d9, dz⟩ := T2.out.cs
    have HBN := Lib.hid hbn
    have T3 := Lib.hid hn3
    clear hb hbn hn3 HS
    unfold tkCells at c0 c1 c2 c3 c4 c5 c6 c7 c8 c9 d0 d1 d2 d3 d4 d5 d6 d7 d8 d9 ⊢
    go_wp2_with fail
    refine (same_self t _).mono ?_
    rintro e w2 ⟨rfl, hb2⟩
    replace HBN := Lib.hid (HBN.out.trans (hb2.mono HBN.out.size))
    replace T1 := Lib.hid (T1.out.below hb2 T1.out.lt)
    replace T3 := Lib.hid (T3.out.below hb2 T3.out.lt)
    clear c0 c1 c2 c3 c4 c5 c6 c7 c8 c9 fz d0 d1 d2 d3 d4 d5 d6 d7 d8 d9 dz hb2
    obtain ⟨c0, c1, c2, c3, c4, c5, c6, c7, c8, c9, fz⟩ := T1.out.cs
    obtain ⟨d0, d1, d2, d3, d4, d5, d6, d7, d8, d9, dz⟩ := T3.out.cs
    go_wp2_with fail
    refine (same_self t _).mono ?_
    rintro e w3 ⟨rfl, hb3⟩
    replace HBN := Lib.hid (HBN.out.trans (hb3.mono HBN.out.size))
    clear c0 c1 c2 c3 c4 c5 c6 c7 c8 c9 fz d0 d1 d2 d3 d4 d5 d6 d7 d8 d9 dz hb3
    go_wp2
    go_ret
    exact ⟨rfl, HBN.out⟩
end Go.Proofs.YtileclmmobkcaaaDoor
