/-
  Contracts of mark.Bogus and of mark.comment's closure. The condition: the text takes at most 2 to the 28th bytes; MaxLen holds some number.
-/
import Derived.Test.YtileclmmobkcaaaDoorMdi
set_option linter.unusedVariables false
namespace Go.Proofs.YtileclmmobkcaaaDoor
open Go.RowKit Go.Shelf

/-- How a function that tells a token ends. -/
def TR (w : World) (t : Tk) (n : Int) (ok : Bool) (e : Ending) (w' : World) : Prop := e = .returned (.tuple #[.agg (tkCells t), .int .i64 n, .bool ok]) ∧ Below w.heap.size w w'

theorem set10 {w : World} {b : Nat} {T : TypeId} {fr : Nat × Nat} {x0  x1  x2  x3  x4  x5  x6  x7  x8  x9 : Value} (h : w.heap[b]? = some (.cells #[x0, x1, x2, x3, x4, x5, x6, x7, x8, x9] T fr)) (v0  v1  v2  v3  v4  v5  v6  v7  v8  v9 : Value) :
    ((((((((((w.setCell ⟨b, 0, none⟩ v0).setCell ⟨b, 1, none⟩ v1).setCell ⟨b, 2, none⟩ v2).setCell ⟨b, 3, none⟩ v3).setCell ⟨b, 4, none⟩ v4).setCell ⟨b, 5, none⟩ v5).setCell ⟨b, 6, none⟩ v6).setCell ⟨b, 7, none⟩ v7).setCell ⟨b, 8, none⟩ v8).setCell ⟨b, 9, none⟩ v9).heap[b]? = some (.cells #[v0, v1, v2, v3, v4, v5, v6, v7, v8, v9] T fr) := by
  simp [World.setCell, Array.getElem?_modify, h]
theorem results_tok {fn : Func} {k i j : Tmp} {b : Nat} {t : Tk} {tmps : Array Value} {w : World} (h : fn.results = #[.cell k 26, .tmp i, .tmp j]) (hk : tmps.getD k undef = .pointer (some ⟨b, 0, none⟩)) (hb : w.heap[b]? = some (.cells (tkCells t) 26 (0, 0))) :
    (results fn tmps).run Tryd.prog w = .ok (.tuple #[.agg (tkCells t), tmps.getD i undef, tmps.getD j undef]) w := by
  have c := fun j => cell_of_heap' hb j
  have c0 : w.cell? ⟨b, 0, none⟩ = some (.int .u8 t.kind) := c 0
  have c1 : w.cell? ⟨b, 1, none⟩ = some (.string ⟨t.name.toArray⟩) := c 1
  have c2 : w.cell? ⟨b, 2, none⟩ = some (.slice none 0 0) := c 2
  have c3 : w.cell? ⟨b, 3, none⟩ = some (.bool false) := c 3
  have c4 : w.cell? ⟨b, 4, none⟩ = some (.string ⟨t.text.toArray⟩) := c 4
  have c5 : w.cell? ⟨b, 5, none⟩ = some (.string ⟨t.pub.toArray⟩) := c 5
  have c6 : w.cell? ⟨b, 6, none⟩ = some (.string ⟨t.sys.toArray⟩) := c 6
  have c7 : w.cell? ⟨b, 7, none⟩ = some (.bool t.hp) := c 7
  have c8 : w.cell? ⟨b, 8, none⟩ = some (.bool t.hs) := c 8
  have c9 : w.cell? ⟨b, 9, none⟩ = some (.bool t.q) := c 9
  have hk' : tmps[k]?.getD undef = .pointer (some ⟨b, 0, none⟩) := by rw [← hk]; simp
  clear c hb hk
  unfold tkCells
  simp [results, h, hk', go_sem, c0, c1, c2, c3, c4, c5, c6, c7, c8, c9]
theorem below_sets {B b : Nat} {w0 w : World} (h : Below B w0 w) (hB : B ≤ b) (v0  v1  v2  v3  v4  v5  v6  v7  v8  v9 : Value) :
    Below B w0 ((((((((((w.setCell ⟨b, 0, none⟩ v0).setCell ⟨b, 1, none⟩ v1).setCell ⟨b, 2, none⟩ v2).setCell ⟨b, 3, none⟩ v3).setCell ⟨b, 4, none⟩ v4).setCell ⟨b, 5, none⟩ v5).setCell ⟨b, 6, none⟩ v6).setCell ⟨b, 7, none⟩ v7).setCell ⟨b, 8, none⟩ v8).setCell ⟨b, 9, none⟩ v9) :=
  ((((((((((h.setCell (p := ⟨b, 0, none⟩) hB _).setCell (p := ⟨b, 1, none⟩) hB _).setCell (p := ⟨b, 2, none⟩) hB _).setCell (p := ⟨b, 3, none⟩) hB _).setCell (p := ⟨b, 4, none⟩) hB _).setCell (p := ⟨b, 5, none⟩) hB _).setCell (p := ⟨b, 6, none⟩) hB _).setCell (p := ⟨b, 7, none⟩) hB _).setCell (p := ⟨b, 8, none⟩) hB _).setCell (p := ⟨b, 9, none⟩) hB _)

theorem tok_end {V : Value} {a b : Int} {c : Bool} (h : a = b) : Ending.returned (.tuple #[V, .int .i64 a, .bool c]) = .returned (.tuple #[V, .int .i64 b, .bool c]) := by rw [h]
/-- A block is a token. -/
def Tb (b : Nat) (t : Tk) (w : World) : Prop := w.heap[b]? = some (.cells (tkCells t) 26 (0, 0))
/-- The cells of a token's block, and that they may be written. -/
structure Tcs (b : Nat) (t : Tk) (w : World) : Prop where
  c0 : w.cell? ⟨b, 0, none⟩ = some (.int .u8 t.kind)
  c1 : w.cell? ⟨b, 1, none⟩ = some (.string ⟨t.name.toArray⟩)
  c2 : w.cell? ⟨b, 2, none⟩ = some (.slice none 0 0)
  c3 : w.cell? ⟨b, 3, none⟩ = some (.bool false)
  c4 : w.cell? ⟨b, 4, none⟩ = some (.string ⟨t.text.toArray⟩)
  c5 : w.cell? ⟨b, 5, none⟩ = some (.string ⟨t.pub.toArray⟩)
  c6 : w.cell? ⟨b, 6, none⟩ = some (.string ⟨t.sys.toArray⟩)
  c7 : w.cell? ⟨b, 7, none⟩ = some (.bool t.hp)
  c8 : w.cell? ⟨b, 8, none⟩ = some (.bool t.hs)
  c9 : w.cell? ⟨b, 9, none⟩ = some (.bool t.q)
  fz : ∀ j, w.frozen? ⟨b, j, none⟩ = false
theorem Tb.cs {b : Nat} {t : Tk} {w : World} (h : Tb b t w) : Tcs b t w := by
  have c := fun j => cell_of_heap' h j
  exact ⟨c 0, c 1, c 2, c 3, c 4, c 5, c 6, c 7, c 8, c 9, frozen_cells h⟩
theorem Tb.new (w : World) : Tb w.heap.size { kind := 0 } (w.alloc (.cells #[.int .u8 0, .string ⟨#[]⟩, .slice none 0 0, .bool false, .string ⟨#[]⟩, .string ⟨#[]⟩, .string ⟨#[]⟩, .bool false, .bool false, .bool false] 26)) := heap_alloc_new w _
theorem Tb.below {b B : Nat} {t : Tk} {w w' : World} (h : Tb b t w) (hb : Below B w w') (hB : b < B) : Tb b t w' := (hb.block b hB).trans h
theorem Tb.lt {b : Nat} {t : Tk} {w : World} (h : Tb b t w) : b < w.heap.size := lt_of_block h

set_option maxRecDepth 100000 in
theorem bogus_out (s : ByteArray) (at_ : Int) (h : at_ < 0 ∨ (s.size : Int) < at_) (w : World) :
    Calls Tryd.prog 11 #[.string s, .int .i64 at_] w (TR w { kind := 0 } 0 false) := by
  rcases h with h | h
  · go_enter Tryd.func11, Tryd.ntmps11
    go_wp2
    exact bodyPost_ret (v := .tuple #[.agg (tkCells { kind := 0 }), .int .i64 0, .bool false]) (by simp [results, Tryd.results11, go_sem]; rfl) rfl ⟨rfl, (Below.refl _ w).alloc (Nat.le_refl _) _⟩
  · have h2 : ¬ at_ < 0 := by omega
    go_enter Tryd.func11, Tryd.ntmps11
    go_wp2
    exact bodyPost_ret (v := .tuple #[.agg (tkCells { kind := 0 }), .int .i64 0, .bool false]) (by simp [results, Tryd.results11, go_sem]; rfl) rfl ⟨rfl, (Below.refl _ w).alloc (Nat.le_refl _) _⟩

theorem cut_calls (s : ByteArray) (hs : s.size ≤ 268435456) (sep : ByteArray) (w : World) (hsh : Sh w) (T X : List UInt8) (B : Bool) (hc : Lib.cut s.data.toList sep.data.toList = (T, X, B)) :
    Calls Tryd.prog 18 #[.string s, .string sep] w fun e w' => e = .returned (.tuple #[.string ⟨T.toArray⟩, .string ⟨X.toArray⟩, .bool B]) ∧ Below w.heap.size w w' := by
  obtain ⟨m, hm⟩ := hsh
  refine (Any.strings_Cut Lb.n145 s sep m w (by omega) hm).mono ?_
  rintro e w' ⟨rfl, k, rfl⟩
  rw [hc]
  exact ⟨rfl, ⟨rfl, rfl, rfl, Nat.le_refl _, fun _ _ => rfl⟩⟩
theorem size_arr (l : List UInt8) : (⟨l.toArray⟩ : ByteArray).size = l.length := by simp [ByteArray.size]

set_option maxRecDepth 100000 in
set_option maxHeartbeats 4000000 in
theorem bogus_in (s : ByteArray) (n : Nat) (r : List UInt8) (hs : s.size ≤ 268435456) (hr : Ps s n r) (w : World) (hsh : Sh w) :
    Calls Tryd.prog 11 #[.string s, .int .i64 n] w (TR w { kind := 4, text := (bg r).1 } (n + (bg r).2.1) (bg r).2.2) := by
  have hn := hr.le
  have hlen := hr.len
  have hn0 : ¬ ((n : Int) < 0) := by omega
  have hn1 : ¬ ((s.size : Int) < n) := by omega
  have hx : (s.extract n s.size).data.toList = r := by
    rw [Lib.extract_data, hr.eq]
    exact List.take_of_length_le (by omega)
  have hxs : (s.extract n s.size).size ≤ 268435456 := by simp; omega
  have HT := Lib.hid (cut_bg r)
  have hcut := (cut_bg r).1
  obtain ⟨X, hX⟩ : ∃ X, (Lib.cut r [62]).2.1 = X := ⟨_, rfl⟩
  rw [hX] at hcut
  have HC : Hid (∀ w, Sh w → Calls Tryd.prog 18 #[.string (s.extract n s.size), .string ⟨#[62]⟩] w fun e w' => e = .returned (.tuple #[.string ⟨(tw r).toArray⟩, .string ⟨X.toArray⟩, .bool (decide (62 ∈ r))]) ∧ Below w.heap.size w w') :=
    fun w h => cut_calls _ hxs ⟨#[62]⟩ w h (tw r) X (decide (62 ∈ r)) (by rw [hx]; exact hcut)
  have hty : (tw r).length ≤ r.length := HT.out.2
  have HS := Lib.hid hsh
  by_cases hm : 62 ∈ r
  · have hdm : decide (62 ∈ r) = true := by simpa using hm
    rw [hdm] at HC
    have KEY : bg r = (wh (tw r), (tw r).length + 1, true) := by unfold bg; rw [if_pos hm]
    rw [KEY]
    generalize tw r = T at *
    clear hcut HT hX hm hdm KEY hx hsh hr
    go_enter Tryd.func11, Tryd.ntmps11
    go_wp2_with fail
    have hT0 := Tb.new w
    have hb0 : Below w.heap.size w (w.alloc (.cells #[.int .u8 0, .string ⟨#[]⟩, .slice none 0 0, .bool false, .string ⟨#[]⟩, .string ⟨#[]⟩, .string ⟨#[]⟩, .bool false, .bool false, .bool false] 26)) := (Below.refl _ w).alloc (Nat.le_refl _) _
    refine (HC.out _ (HS.out.below hb0)).mono ?_
    rintro e w1 ⟨rfl, hb1⟩
    have hT1 := hT0.below hb1 (by simp)
    have hb1' := hb0.trans (hb1.mono hb0.size)
    have HB1 := Lib.hid hb1'
    have HT1 := Lib.hid hT1
    clear hT0 hb0 hb1 hT1 hb1' HC
    have hTs := size_arr T
    go_wp2_with fail
    refine (whole_calls ⟨T.toArray⟩ (by omega) _ (HS.out.below HB1.out)).mono ?_
    rintro e w2 ⟨rfl, hb2⟩
    have hT2 := HT1.out.below hb2 HT1.out.lt
    have HB2 := Lib.hid (HB1.out.trans (hb2.mono HB1.out.size))
    have HT2 := Lib.hid hT2
    obtain ⟨c0, c1, c2, c3, c4, c5, c6, c7, c8, c9, fz⟩ := hT2.cs
    clear hb2 hT2 HB1 HT1 HS
    go_wp2
    generalize hW3 : World.setCell _ _ _ = W3
    have hR3 : Tb w.heap.size { kind := 4, text := wh T } W3 := by rw [← hW3]; exact set10 HT2.out _ _ _ _ _ _ _ _ _ _
    have hB3 : Below w.heap.size w W3 := by rw [← hW3]; exact below_sets HB2.out (Nat.le_refl _) _ _ _ _ _ _ _ _ _ _
    refine bodyPost_ret (results_tok rfl rfl hR3) rfl ⟨?_, hB3⟩
    exact tok_end (by omega)
  · have hdm : decide (62 ∈ r) = false := by simpa using hm
    rw [hdm] at HC
    have KEY : bg r = (wh (tw r), (tw r).length, false) := by unfold bg; rw [if_neg hm, tw_no r hm]
    rw [KEY]
    generalize tw r = T at *
    clear hcut HT hX hm hdm KEY hx hsh hr
    go_enter Tryd.func11, Tryd.ntmps11
    go_wp2_with fail
    have hT0 := Tb.new w
    have hb0 : Below w.heap.size w (w.alloc (.cells #[.int .u8 0, .string ⟨#[]⟩, .slice none 0 0, .bool false, .string ⟨#[]⟩, .string ⟨#[]⟩, .string ⟨#[]⟩, .bool false, .bool false, .bool false] 26)) := (Below.refl _ w).alloc (Nat.le_refl _) _
    refine (HC.out _ (HS.out.below hb0)).mono ?_
    rintro e w1 ⟨rfl, hb1⟩
    have hT1 := hT0.below hb1 (by simp)
    have hb1' := hb0.trans (hb1.mono hb0.size)
    have HB1 := Lib.hid hb1'
    have HT1 := Lib.hid hT1
    clear hT0 hb0 hb1 hT1 hb1' HC
    have hTs := size_arr T
    go_wp2_with fail
    refine (whole_calls ⟨T.toArray⟩ (by omega) _ (HS.out.below HB1.out)).mono ?_
    rintro e w2 ⟨rfl, hb2⟩
    have hT2 := HT1.out.below hb2 HT1.out.lt
    have HB2 := Lib.hid (HB1.out.trans (hb2.mono HB1.out.size))
    have HT2 := Lib.hid hT2
    obtain ⟨c0, c1, c2, c3, c4, c5, c6, c7, c8, c9, fz⟩ := hT2.cs
    clear hb2 hT2 HB1 HT1 HS
    go_wp2
    generalize hW3 : World.setCell _ _ _ = W3
    have hR3 : Tb w.heap.size { kind := 4, text := wh T } W3 := by rw [← hW3]; exact set10 HT2.out _ _ _ _ _ _ _ _ _ _
    have hB3 : Below w.heap.size w W3 := by rw [← hW3]; exact below_sets HB2.out (Nat.le_refl _) _ _ _ _ _ _ _ _ _ _
    refine bodyPost_ret (results_tok rfl rfl hR3) rfl ⟨?_, hB3⟩
    exact tok_end (by omega)
end Go.Proofs.YtileclmmobkcaaaDoor
