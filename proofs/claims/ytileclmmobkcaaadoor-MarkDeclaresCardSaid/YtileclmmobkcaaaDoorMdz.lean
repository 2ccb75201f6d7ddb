/-
  The walk of lacunalaw04.MarkDeclares: it returns true. The condition: MaxLen holds some number.
-/
import Derived.Test.YtileclmmobkcaaaDoorMwk
import Derived.Test.YtileclmmobkcaaaDoorMsm
import Derived.Test.YtileclmmobkcaaaDoorMrf
set_option linter.unusedVariables false
namespace Go.Proofs.YtileclmmobkcaaaDoor
open Go.RowKit Go.Shelf

theorem Tb.fresh' (w : World) (t : Tk) : Tb w.heap.size t (w.alloc (.cells (tkCells t) 26)) := heap_alloc_new w _

set_option maxRecDepth 100000 in
set_option maxHeartbeats 4000000 in
theorem declares_same (s : ByteArray) (at_ : Int) (cd : Bool) (h1 : ¬ ((8192 : Int) < s.size)) (t u : Tk) (k m : Int) (a b : Bool)
    (D1 : Hid (∀ w, Sh w → Calls Tryd.prog 8 #[.string s, .int .i64 at_, .bool cd] w (TR w t k a)))
    (D2 : Hid (∀ w, Calls Tryd.prog 9 #[.string s, .int .i64 at_, .bool cd] w (TR w t k a)))
    (B1 : Hid (∀ w, Sh w → Calls Tryd.prog 11 #[.string s, .int .i64 at_] w (TR w u m b)))
    (B2 : Hid (∀ w, Calls Tryd.prog 12 #[.string s, .int .i64 at_] w (TR w u m b))) (w : World) (hsh : Sh w) :
    Calls Tryd.prog 3 #[.string s, .int .i64 at_, .bool cd] w fun e w' => e = .returned (.bool true) ∧ Below w.heap.size w w' := by
  have HS := Lib.hid hsh
  clear hsh
  go_enter Tryd.func3, Tryd.ntmps3
  go_wp2_with fail
  refine (works_calls _ HS.out).mono ?_
  rintro e w1 ⟨rfl, hb1⟩
  have HB := Lib.hid hb1
  replace HS := Lib.hid (HS.out.below hb1)
  clear hb1
  go_wp2_with fail
  refine (D1.out _ HS.out).mono ?_
  rintro e v1 ⟨rfl, hb⟩
  replace HS := Lib.hid ((HS.out.below hb).below ((Below.refl _ _).alloc (Nat.le_refl _) (.cells (tkCells t) 26)))
  replace HB := Lib.hid (HB.out.trans (hb.mono HB.out.size))
  have hbn := HB.out.alloc HB.out.size (.cells (tkCells t) 26)
  have hn1 := Tb.fresh' v1 t
  clear hb
  unfold tkCells at hbn hn1 HS ⊢
  go_wp2_with fail
  generalize hW1 : World.alloc _ _ = W1 at *
  clear hW1
  replace HB := Lib.hid hbn
  have T1 : Hid (Tb v1.heap.size t W1) := hn1
  clear hbn hn1
  refine (D2.out _).mono ?_
  rintro e v2 ⟨rfl, hb⟩
  replace HS := Lib.hid ((HS.out.below hb).below ((Below.refl _ _).alloc (Nat.le_refl _) (.cells (tkCells t) 26)))
  replace HB := Lib.hid (HB.out.trans (hb.mono HB.out.size))
  replace T1 := Lib.hid (Tb.alloc (T1.out.below hb T1.out.lt) (.cells (tkCells t) 26))
  have hbn := HB.out.alloc HB.out.size (.cells (tkCells t) 26)
  have hn2 := Tb.fresh' v2 t
  obtain ⟨c0, c1, c2, c3, c4, c5, c6, c7, c8, c9, fz⟩ := T1.out.cs
  have HBN := Lib.hid hbn
  have T2 := Lib.hid hn2
  clear hb hbn hn2
  unfold tkCells at c0 c1 c2 c3 c4 c5 c6 c7 c8 c9 ⊢
  go_wp2_with fail
  refine (same_self t _).mono ?_
  rintro e w2 ⟨rfl, hb2⟩
  replace HS := Lib.hid (HS.out.below hb2)
  replace HB := Lib.hid (HBN.out.trans (hb2.mono HBN.out.size))
  clear c0 c1 c2 c3 c4 c5 c6 c7 c8 c9 fz hb2 T1 T2 HBN
  go_wp2_with fail
  refine (B1.out _ HS.out).mono ?_
  rintro e v3 ⟨rfl, hb⟩
  replace HB := Lib.hid (HB.out.trans (hb.mono HB.out.size))
  have hbn := HB.out.alloc HB.out.size (.cells (tkCells u) 26)
  have hn1 := Tb.fresh' v3 u
  clear hb HS
  unfold tkCells at hbn hn1 ⊢
  go_wp2_with fail
  generalize hW1 : World.alloc _ _ = W3 at *
  clear hW1
  replace HB := Lib.hid hbn
  have T1 : Hid (Tb v3.heap.size u W3) := hn1
  clear hbn hn1
  refine (B2.out _).mono ?_
  rintro e v4 ⟨rfl, hb⟩
  replace HB := Lib.hid (HB.out.trans (hb.mono HB.out.size))
  replace T1 := Lib.hid (Tb.alloc (T1.out.below hb T1.out.lt) (.cells (tkCells u) 26))
  have hbn := HB.out.alloc HB.out.size (.cells (tkCells u) 26)
  obtain ⟨c0, c1, c2, c3, c4, c5, c6, c7, c8, c9, fz⟩ := T1.out.cs
  have HBN := Lib.hid hbn
  clear hb hbn
  unfold tkCells at c0 c1 c2 c3 c4 c5 c6 c7 c8 c9 ⊢
  go_wp2_with fail
  refine (same_self u _).mono ?_
  rintro e w3 ⟨rfl, hb3⟩
  replace HB := Lib.hid (HBN.out.trans (hb3.mono HBN.out.size))
  clear c0 c1 c2 c3 c4 c5 c6 c7 c8 c9 fz hb3 T1 HBN
  go_wp2
  go_ret
  exact ⟨rfl, HB.out⟩

set_option maxRecDepth 100000 in
theorem declares_walk (s : ByteArray) (at_ : Int) (cd : Bool) (w : World) (g0 : -9223372036854775808 ≤ at_) (g1 : at_ ≤ 9223372036854775807) (hsh : Sh w) :
    Calls Tryd.prog 3 #[.string s, .int .i64 at_, .bool cd] w fun e w' => e = .returned (.bool true) ∧ Below w.heap.size w w' := by
  by_cases h1 : 8192 < s.size
  · have h1' : (8192 : Int) < s.size := by omega
    have HS := Lib.hid hsh
    clear hsh
    go_enter Tryd.func3, Tryd.ntmps3
    go_wp2_with fail
    refine (works_calls _ HS.out).mono ?_
    rintro e w1 ⟨rfl, hb1⟩
    have HB1 := Lib.hid hb1
    clear hb1
    go_wp2
    go_ret
    exact ⟨rfl, HB1.out⟩
  by_cases hout : at_ < 0 ∨ (s.size : Int) < at_
  · exact declares_same s at_ cd (by omega) { kind := 0 } { kind := 0 } 0 0 false false (fun w _ => decl_out s at_ cd hout w) (fun w => declR_out s at_ cd hout w) (fun w _ => bogus_out s at_ hout w) (fun w => bogusR_out s at_ hout w) w hsh
  · obtain ⟨n, rfl⟩ : ∃ n : Nat, at_ = n := ⟨at_.toNat, by omega⟩
    have hn : n ≤ s.size := by omega
    exact declares_same s n cd (by omega) _ _ _ _ _ _ (fun w h => decl_in s n cd (by omega) hn w h) (fun w => declR_in s n cd (by omega) hn w) (fun w h => bogus_in s n _ (by omega) ⟨hn, rfl⟩ w h) (fun w => bogusR_bg s n _ (by omega) ⟨hn, rfl⟩ w) w hsh
end Go.Proofs.YtileclmmobkcaaaDoor
