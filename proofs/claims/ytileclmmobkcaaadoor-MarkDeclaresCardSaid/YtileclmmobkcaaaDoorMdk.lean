/-
  The contract of mark.comment. The condition: the text takes at most 2 to the 28th bytes; MaxLen holds some number.
-/
import Derived.Test.YtileclmmobkcaaaDoorMdj
set_option linter.unusedVariables false
namespace Go.Proofs.YtileclmmobkcaaaDoor
open Go.RowKit Go.Shelf

set_option maxRecDepth 100000 in
theorem told_calls (t : ByteArray) (n : Int) (ok : Bool) (ht : t.size ≤ 268435456) (w : World) (hsh : Sh w) :
    Calls Tryd.prog 27 #[.string t, .int .i64 n, .bool ok] w (TR w { kind := 4, text := wh t.data.toList } n ok) := by
  have HS := Lib.hid hsh
  clear hsh
  go_enter Tryd.func27, Tryd.ntmps27
  go_wp2_with fail
  have hT0 := Tb.new w
  have hb0 : Below w.heap.size w (w.alloc (.cells #[.int .u8 0, .string ⟨#[]⟩, .slice none 0 0, .bool false, .string ⟨#[]⟩, .string ⟨#[]⟩, .string ⟨#[]⟩, .bool false, .bool false, .bool false] 26)) := (Below.refl _ w).alloc (Nat.le_refl _) _
  refine (whole_calls t ht _ (HS.out.below hb0)).mono ?_
  rintro e w2 ⟨rfl, hb2⟩
  have hT2 := hT0.below hb2 (by simp)
  have HB2 := Lib.hid (hb0.trans (hb2.mono hb0.size))
  have HT2 := Lib.hid hT2
  obtain ⟨c0, c1, c2, c3, c4, c5, c6, c7, c8, c9, fz⟩ := hT2.cs
  clear hb2 hT2 hT0 hb0 HS
  generalize wh t.data.toList = T at *
  go_wp2
  generalize hW3 : World.setCell _ _ _ = W3
  have hR3 : Tb w.heap.size { kind := 4, text := T } W3 := by rw [← hW3]; exact set10 HT2.out _ _ _ _ _ _ _ _ _ _
  have hB3 : Below w.heap.size w W3 := by rw [← hW3]; exact below_sets HB2.out (Nat.le_refl _) _ _ _ _ _ _ _ _ _ _
  exact bodyPost_ret (results_tok rfl rfl hR3) rfl ⟨rfl, hB3⟩

theorem hasP_calls (x p : ByteArray) (b : Bool) (h : Lib.hasPrefix x.data.toList p.data.toList = b) (w : World) : Calls Tryd.prog 14 #[.string x, .string p] w fun e w' => e = .returned (.bool b) ∧ w' = w := by
  rw [← h]; exact Any.strings_HasPrefix Lb.n99 x p w
theorem index_calls (x p : ByteArray) (hx : x.size ≤ 268435456) (i : Int) (h : Lib.index x.data.toList p.data.toList = i) (w : World) (hsh : Sh w) : Calls Tryd.prog 28 #[.string x, .string p] w fun e w' => e = .returned (.int .i64 i) ∧ w' = w := by
  obtain ⟨m, hm⟩ := hsh
  rw [← h]; exact Any.strings_Index Lb.n143 x p m w (by omega) hm
theorem cutS_calls (x p : ByteArray) (hx : x.size ≤ 268435456) (b : Bool) (t : ByteArray) (h : Lib.hasSuffix x.data.toList p.data.toList = b) (ht : (⟨(Lib.trimSuffix x.data.toList p.data.toList).toArray⟩ : ByteArray) = t) (w : World) :
    Calls Tryd.prog 29 #[.string x, .string p] w fun e w' => e = .returned (.tuple #[.string t, .bool b]) ∧ w' = w := by
  rw [← h, ← ht]; exact Any.strings_CutSuffix Lb.n104 x p w (by omega)

theorem tok_end2 {t t' : List UInt8} {k : Nat} {a b : Int} {c : Bool} (h' : t = t') (h : a = b) : Ending.returned (.tuple #[.agg (tkCells { kind := k, text := t }), .int .i64 a, .bool c]) = .returned (.tuple #[.agg (tkCells { kind := k, text := t' }), .int .i64 b, .bool c]) := by rw [h, h']

theorem cmE_1 (r : List UInt8) (k : Nat) (hi : Lib.index r [45, 45, 62] = k) (hj : Lib.index r [45, 45, 33, 62] = -1) : cmE r = (k, 3) := by
  unfold cmE; rw [hi, hj]; simp
theorem cmE_2 (r : List UInt8) (k m : Nat) (hi : Lib.index r [45, 45, 62] = k) (hj : Lib.index r [45, 45, 33, 62] = m) (h : k ≤ m) : cmE r = (k, 3) := by
  unfold cmE; rw [hi, hj]; simp; omega
theorem cmE_3 (r : List UInt8) (k m : Nat) (hi : Lib.index r [45, 45, 62] = k) (hj : Lib.index r [45, 45, 33, 62] = m) (h : m < k) : cmE r = (m, 4) := by
  unfold cmE; rw [hi, hj]; simp; omega
theorem cmE_4 (r : List UInt8) (m : Nat) (hi : Lib.index r [45, 45, 62] = -1) (hj : Lib.index r [45, 45, 33, 62] = m) (h : m < r.length) : cmE r = (m, 4) := by
  unfold cmE; rw [hi, hj]; simp; omega

set_option maxRecDepth 100000 in
set_option maxHeartbeats 1000000 in
theorem comment_A (s : ByteArray) (n : Nat) (r : List UInt8) (hs : s.size ≤ 268435456) (hr : Ps s n r) (w : World) (hsh : Sh w) (hg : Lib.hasPrefix r [62] = true) :
    Calls Tryd.prog 15 #[.string s, .int .i64 n] w (TR w { kind := 4, text := (cm r).1 } (n + (cm r).2.1) (cm r).2.2) := by
  have hn := hr.le
  have hlen := hr.len
  obtain ⟨X, hX⟩ : ∃ X, s.extract n s.size = X := ⟨_, rfl⟩
  have hx : X.data.toList = r := by
    rw [← hX, Lib.extract_data, hr.eq]
    exact List.take_of_length_le (by omega)
  have hxl : X.size = r.length := by rw [← hx]; simp
  have hxs : X.size ≤ 268435456 := by omega
  have HS := Lib.hid hsh
  have HX := Lib.hid hx
  have KEY : cm r = ([], 1, true) := by unfold cm; rw [if_pos hg]
  rw [KEY]
  have Pg := Lib.hid (fun w => hasP_calls X ⟨#[62]⟩ true (by rw [hx]; exact hg) w)
  clear KEY hg
  obtain ⟨TK, hTK⟩ : ∃ TK, wh (⟨#[]⟩ : ByteArray).data.toList = TK := ⟨_, rfl⟩
  have TC : Hid (∀ (pp : Int) (w : World), Sh w → Calls Tryd.prog 27 #[.string ⟨#[]⟩, .int .i64 pp, .bool true] w (TR w { kind := 4, text := TK } pp true)) := fun pp w h => by rw [← hTK]; exact told_calls ⟨#[]⟩ pp true (by decide) w h
  have HTK := Lib.hid hTK
  clear hTK
  have hb0 : Below w.heap.size w (w.alloc (.cells #[.int .u8 0, .string ⟨#[]⟩, .slice none 0 0, .bool false, .string ⟨#[]⟩, .string ⟨#[]⟩, .string ⟨#[]⟩, .bool false, .bool false, .bool false] 26)) := (Below.refl _ w).alloc (Nat.le_refl _) _
  have HB0 := Lib.hid hb0
  have HT0 := Lib.hid (Tb.new w)
  have HX0 := Lib.hid hX
  clear hb0 hx hr hsh hX
  have i10 : ∀ w : World, (Instr.index 44 (.agg #[.string ⟨#[62]⟩, .string ⟨#[45, 62]⟩]) (.int .i64 0)).run Tryd.prog w = .ok (.string ⟨#[62]⟩) w := fun _ => by kernel_rfl
  have i11 : ∀ w : World, (Instr.index 44 (.agg #[.string ⟨#[62]⟩, .string ⟨#[45, 62]⟩]) (.int .i64 1)).run Tryd.prog w = .ok (.string ⟨#[45, 62]⟩) w := fun _ => by kernel_rfl
  have i20 : ∀ w : World, (Instr.index 44 (.agg #[.string ⟨#[45, 45, 62]⟩, .string ⟨#[45, 45, 33, 62]⟩]) (.int .i64 0)).run Tryd.prog w = .ok (.string ⟨#[45, 45, 62]⟩) w := fun _ => by kernel_rfl
  have i21 : ∀ w : World, (Instr.index 44 (.agg #[.string ⟨#[45, 45, 62]⟩, .string ⟨#[45, 45, 33, 62]⟩]) (.int .i64 1)).run Tryd.prog w = .ok (.string ⟨#[45, 45, 33, 62]⟩) w := fun _ => by kernel_rfl
  have i30 : ∀ w : World, (Instr.index 46 (.agg #[.string ⟨#[45, 45, 33]⟩, .string ⟨#[45, 45]⟩, .string ⟨#[45]⟩]) (.int .i64 0)).run Tryd.prog w = .ok (.string ⟨#[45, 45, 33]⟩) w := fun _ => by kernel_rfl
  have i31 : ∀ w : World, (Instr.index 46 (.agg #[.string ⟨#[45, 45, 33]⟩, .string ⟨#[45, 45]⟩, .string ⟨#[45]⟩]) (.int .i64 1)).run Tryd.prog w = .ok (.string ⟨#[45, 45]⟩) w := fun _ => by kernel_rfl
  have i32 : ∀ w : World, (Instr.index 46 (.agg #[.string ⟨#[45, 45, 33]⟩, .string ⟨#[45, 45]⟩, .string ⟨#[45]⟩]) (.int .i64 2)).run Tryd.prog w = .ok (.string ⟨#[45]⟩) w := fun _ => by kernel_rfl
  go_enter Tryd.func15, Tryd.ntmps15
  go_wp2_with fail
  rw [HX0.out]
  generalize hW0 : World.alloc _ _ = W0 at *
  clear hW0
  go_wp2_with fail
  refine wp_loop_rounds 3 ?_
  rw [rounds_succ]
  go_wp2_with fail
  refine (Pg.out _).mono ?_
  rintro e w' ⟨rfl, rfl⟩
  go_wp2_with fail
  refine (TC.out _ _ (HS.out.below HB0.out)).mono ?_
  rintro e w2 ⟨rfl, hb2⟩
  have HB2 := Lib.hid (HB0.out.trans (hb2.mono HB0.out.size))
  have HT2 := Lib.hid (HT0.out.below hb2 HT0.out.lt)
  obtain ⟨c0, c1, c2, c3, c4, c5, c6, c7, c8, c9, fz⟩ := HT2.out.cs
  clear hb2 HB0 HT0 HS
  unfold tkCells
  go_wp2
  generalize hW3 : World.setCell _ _ _ = W3
  have hR3 : Tb w.heap.size { kind := 4, text := TK } W3 := by rw [← hW3]; exact set10 HT2.out _ _ _ _ _ _ _ _ _ _
  have hB3 : Below w.heap.size w W3 := by rw [← hW3]; exact below_sets HB2.out (Nat.le_refl _) _ _ _ _ _ _ _ _ _ _
  refine bodyPost_ret (results_tok rfl rfl hR3) rfl ⟨?_, hB3⟩
  exact tok_end2 (HTK.out.symm.trans rfl) (by omega)


set_option maxRecDepth 100000 in
set_option maxHeartbeats 1000000 in
theorem comment_B (s : ByteArray) (n : Nat) (r : List UInt8) (hs : s.size ≤ 268435456) (hr : Ps s n r) (w : World) (hsh : Sh w) (hg : Lib.hasPrefix r [62] = false) (hdg : Lib.hasPrefix r [45, 62] = true) :
    Calls Tryd.prog 15 #[.string s, .int .i64 n] w (TR w { kind := 4, text := (cm r).1 } (n + (cm r).2.1) (cm r).2.2) := by
  have hn := hr.le
  have hlen := hr.len
  obtain ⟨X, hX⟩ : ∃ X, s.extract n s.size = X := ⟨_, rfl⟩
  have hx : X.data.toList = r := by
    rw [← hX, Lib.extract_data, hr.eq]
    exact List.take_of_length_le (by omega)
  have hxl : X.size = r.length := by rw [← hx]; simp
  have hxs : X.size ≤ 268435456 := by omega
  have HS := Lib.hid hsh
  have HX := Lib.hid hx
  have KEY : cm r = ([], 2, true) := by unfold cm; rw [if_neg (by rw [hg]; decide), if_pos hdg]
  rw [KEY]
  have Pg := Lib.hid (fun w => hasP_calls X ⟨#[62]⟩ false (by rw [hx]; exact hg) w)
  have Pdg := Lib.hid (fun w => hasP_calls X ⟨#[45, 62]⟩ true (by rw [hx]; exact hdg) w)
  clear KEY hg hdg
  obtain ⟨TK, hTK⟩ : ∃ TK, wh (⟨#[]⟩ : ByteArray).data.toList = TK := ⟨_, rfl⟩
  have TC : Hid (∀ (pp : Int) (w : World), Sh w → Calls Tryd.prog 27 #[.string ⟨#[]⟩, .int .i64 pp, .bool true] w (TR w { kind := 4, text := TK } pp true)) := fun pp w h => by rw [← hTK]; exact told_calls ⟨#[]⟩ pp true (by decide) w h
  have HTK := Lib.hid hTK
  clear hTK
  have hb0 : Below w.heap.size w (w.alloc (.cells #[.int .u8 0, .string ⟨#[]⟩, .slice none 0 0, .bool false, .string ⟨#[]⟩, .string ⟨#[]⟩, .string ⟨#[]⟩, .bool false, .bool false, .bool false] 26)) := (Below.refl _ w).alloc (Nat.le_refl _) _
  have HB0 := Lib.hid hb0
  have HT0 := Lib.hid (Tb.new w)
  have HX0 := Lib.hid hX
  clear hb0 hx hr hsh hX
  have i10 : ∀ w : World, (Instr.index 44 (.agg #[.string ⟨#[62]⟩, .string ⟨#[45, 62]⟩]) (.int .i64 0)).run Tryd.prog w = .ok (.string ⟨#[62]⟩) w := fun _ => by kernel_rfl
  have i11 : ∀ w : World, (Instr.index 44 (.agg #[.string ⟨#[62]⟩, .string ⟨#[45, 62]⟩]) (.int .i64 1)).run Tryd.prog w = .ok (.string ⟨#[45, 62]⟩) w := fun _ => by kernel_rfl
  have i20 : ∀ w : World, (Instr.index 44 (.agg #[.string ⟨#[45, 45, 62]⟩, .string ⟨#[45, 45, 33, 62]⟩]) (.int .i64 0)).run Tryd.prog w = .ok (.string ⟨#[45, 45, 62]⟩) w := fun _ => by kernel_rfl
  have i21 : ∀ w : World, (Instr.index 44 (.agg #[.string ⟨#[45, 45, 62]⟩, .string ⟨#[45, 45, 33, 62]⟩]) (.int .i64 1)).run Tryd.prog w = .ok (.string ⟨#[45, 45, 33, 62]⟩) w := fun _ => by kernel_rfl
  have i30 : ∀ w : World, (Instr.index 46 (.agg #[.string ⟨#[45, 45, 33]⟩, .string ⟨#[45, 45]⟩, .string ⟨#[45]⟩]) (.int .i64 0)).run Tryd.prog w = .ok (.string ⟨#[45, 45, 33]⟩) w := fun _ => by kernel_rfl
  have i31 : ∀ w : World, (Instr.index 46 (.agg #[.string ⟨#[45, 45, 33]⟩, .string ⟨#[45, 45]⟩, .string ⟨#[45]⟩]) (.int .i64 1)).run Tryd.prog w = .ok (.string ⟨#[45, 45]⟩) w := fun _ => by kernel_rfl
  have i32 : ∀ w : World, (Instr.index 46 (.agg #[.string ⟨#[45, 45, 33]⟩, .string ⟨#[45, 45]⟩, .string ⟨#[45]⟩]) (.int .i64 2)).run Tryd.prog w = .ok (.string ⟨#[45]⟩) w := fun _ => by kernel_rfl
  go_enter Tryd.func15, Tryd.ntmps15
  go_wp2_with fail
  rw [HX0.out]
  generalize hW0 : World.alloc _ _ = W0 at *
  clear hW0
  go_wp2_with fail
  refine wp_loop_rounds 3 ?_
  rw [rounds_succ]
  go_wp2_with fail
  refine (Pg.out _).mono ?_
  rintro e w' ⟨rfl, rfl⟩
  go_wp2_with fail
  rw [rounds_succ]
  go_wp2_with fail
  refine (Pdg.out _).mono ?_
  rintro e w' ⟨rfl, rfl⟩
  go_wp2_with fail
  refine (TC.out _ _ (HS.out.below HB0.out)).mono ?_
  rintro e w2 ⟨rfl, hb2⟩
  have HB2 := Lib.hid (HB0.out.trans (hb2.mono HB0.out.size))
  have HT2 := Lib.hid (HT0.out.below hb2 HT0.out.lt)
  obtain ⟨c0, c1, c2, c3, c4, c5, c6, c7, c8, c9, fz⟩ := HT2.out.cs
  clear hb2 HB0 HT0 HS
  unfold tkCells
  go_wp2
  generalize hW3 : World.setCell _ _ _ = W3
  have hR3 : Tb w.heap.size { kind := 4, text := TK } W3 := by rw [← hW3]; exact set10 HT2.out _ _ _ _ _ _ _ _ _ _
  have hB3 : Below w.heap.size w W3 := by rw [← hW3]; exact below_sets HB2.out (Nat.le_refl _) _ _ _ _ _ _ _ _ _ _
  refine bodyPost_ret (results_tok rfl rfl hR3) rfl ⟨?_, hB3⟩
  exact tok_end2 (HTK.out.symm.trans rfl) (by omega)


set_option maxRecDepth 100000 in
set_option maxHeartbeats 1000000 in
theorem comment_C1 (s : ByteArray) (n : Nat) (r : List UInt8) (hs : s.size ≤ 268435456) (hr : Ps s n r) (w : World) (hsh : Sh w) (hg : Lib.hasPrefix r [62] = false) (hdg : Lib.hasPrefix r [45, 62] = false) (k : Nat) (hi : Lib.index r [45, 45, 62] = k) (hj : Lib.index r [45, 45, 33, 62] = -1) :
    Calls Tryd.prog 15 #[.string s, .int .i64 n] w (TR w { kind := 4, text := (cm r).1 } (n + (cm r).2.1) (cm r).2.2) := by
  have hn := hr.le
  have hlen := hr.len
  obtain ⟨X, hX⟩ : ∃ X, s.extract n s.size = X := ⟨_, rfl⟩
  have hx : X.data.toList = r := by
    rw [← hX, Lib.extract_data, hr.eq]
    exact List.take_of_length_le (by omega)
  have hxl : X.size = r.length := by rw [← hx]; simp
  have hxs : X.size ≤ 268435456 := by omega
  have HS := Lib.hid hsh
  have HX := Lib.hid hx
  have KE : cmE r = (k, 3) := cmE_1 r k hi hj
  have KEY : cm r = (wh (r.take k), k + 3, true) := by
    unfold cm
    rw [if_neg (by rw [hg]; decide), if_neg (by rw [hdg]; decide), KE]
    rfl
  rw [KEY]
  have Pg := Lib.hid (fun w => hasP_calls X ⟨#[62]⟩ false (by rw [hx]; exact hg) w)
  have Pdg := Lib.hid (fun w => hasP_calls X ⟨#[45, 62]⟩ false (by rw [hx]; exact hdg) w)
  have ri := Lib.index_room r [45, 45, 62] (by rw [hi]; omega)
  rw [hi] at ri
  simp only [List.length_cons, List.length_nil] at ri
  have ri1 : k < X.size := by omega
  have ri2 : (k : Int) < (X.size : Int) := by omega
  clear ri
  have Ii := Lib.hid (fun w (hw : Sh w) => index_calls X ⟨#[45, 45, 62]⟩ hxs k (by rw [hx]; exact hi) w hw)
  have Ij := Lib.hid (fun w (hw : Sh w) => index_calls X ⟨#[45, 45, 33, 62]⟩ hxs (-1) (by rw [hx]; exact hj) w hw)
  clear KE KEY hg hdg hi hj
  obtain ⟨TK, hTK⟩ : ∃ TK, wh ((X.extract 0 k) : ByteArray).data.toList = TK := ⟨_, rfl⟩
  have TC : Hid (∀ (pp : Int) (w : World), Sh w → Calls Tryd.prog 27 #[.string (X.extract 0 k), .int .i64 pp, .bool true] w (TR w { kind := 4, text := TK } pp true)) := fun pp w h => by rw [← hTK]; exact told_calls (X.extract 0 k) pp true (by simp; omega) w h
  have HTK := Lib.hid hTK
  clear hTK
  have hb0 : Below w.heap.size w (w.alloc (.cells #[.int .u8 0, .string ⟨#[]⟩, .slice none 0 0, .bool false, .string ⟨#[]⟩, .string ⟨#[]⟩, .string ⟨#[]⟩, .bool false, .bool false, .bool false] 26)) := (Below.refl _ w).alloc (Nat.le_refl _) _
  have HB0 := Lib.hid hb0
  have HT0 := Lib.hid (Tb.new w)
  have HX0 := Lib.hid hX
  clear hb0 hx hr hsh hX
  have i10 : ∀ w : World, (Instr.index 44 (.agg #[.string ⟨#[62]⟩, .string ⟨#[45, 62]⟩]) (.int .i64 0)).run Tryd.prog w = .ok (.string ⟨#[62]⟩) w := fun _ => by kernel_rfl
  have i11 : ∀ w : World, (Instr.index 44 (.agg #[.string ⟨#[62]⟩, .string ⟨#[45, 62]⟩]) (.int .i64 1)).run Tryd.prog w = .ok (.string ⟨#[45, 62]⟩) w := fun _ => by kernel_rfl
  have i20 : ∀ w : World, (Instr.index 44 (.agg #[.string ⟨#[45, 45, 62]⟩, .string ⟨#[45, 45, 33, 62]⟩]) (.int .i64 0)).run Tryd.prog w = .ok (.string ⟨#[45, 45, 62]⟩) w := fun _ => by kernel_rfl
  have i21 : ∀ w : World, (Instr.index 44 (.agg #[.string ⟨#[45, 45, 62]⟩, .string ⟨#[45, 45, 33, 62]⟩]) (.int .i64 1)).run Tryd.prog w = .ok (.string ⟨#[45, 45, 33, 62]⟩) w := fun _ => by kernel_rfl
  have i30 : ∀ w : World, (Instr.index 46 (.agg #[.string ⟨#[45, 45, 33]⟩, .string ⟨#[45, 45]⟩, .string ⟨#[45]⟩]) (.int .i64 0)).run Tryd.prog w = .ok (.string ⟨#[45, 45, 33]⟩) w := fun _ => by kernel_rfl
  have i31 : ∀ w : World, (Instr.index 46 (.agg #[.string ⟨#[45, 45, 33]⟩, .string ⟨#[45, 45]⟩, .string ⟨#[45]⟩]) (.int .i64 1)).run Tryd.prog w = .ok (.string ⟨#[45, 45]⟩) w := fun _ => by kernel_rfl
  have i32 : ∀ w : World, (Instr.index 46 (.agg #[.string ⟨#[45, 45, 33]⟩, .string ⟨#[45, 45]⟩, .string ⟨#[45]⟩]) (.int .i64 2)).run Tryd.prog w = .ok (.string ⟨#[45]⟩) w := fun _ => by kernel_rfl
  go_enter Tryd.func15, Tryd.ntmps15
  go_wp2_with fail
  rw [HX0.out]
  generalize hW0 : World.alloc _ _ = W0 at *
  clear hW0
  go_wp2_with fail
  refine wp_loop_rounds 3 ?_
  rw [rounds_succ]
  go_wp2_with fail
  refine (Pg.out _).mono ?_
  rintro e w' ⟨rfl, rfl⟩
  go_wp2_with fail
  rw [rounds_succ]
  go_wp2_with fail
  refine (Pdg.out _).mono ?_
  rintro e w' ⟨rfl, rfl⟩
  go_wp2_with fail
  rw [rounds_succ]
  go_wp2_with fail
  refine wp_loop_rounds 3 ?_
  rw [rounds_succ]
  go_wp2_with fail
  refine (Ii.out _ (HS.out.below HB0.out)).mono ?_
  rintro e w' ⟨rfl, rfl⟩
  go_wp2_with fail
  rw [rounds_succ]
  go_wp2_with fail
  refine (Ij.out _ (HS.out.below HB0.out)).mono ?_
  rintro e w' ⟨rfl, rfl⟩
  go_wp2_with fail
  rw [rounds_succ]
  go_wp2_with fail
  refine (TC.out _ _ (HS.out.below HB0.out)).mono ?_
  rintro e w2 ⟨rfl, hb2⟩
  have HB2 := Lib.hid (HB0.out.trans (hb2.mono HB0.out.size))
  have HT2 := Lib.hid (HT0.out.below hb2 HT0.out.lt)
  obtain ⟨c0, c1, c2, c3, c4, c5, c6, c7, c8, c9, fz⟩ := HT2.out.cs
  clear hb2 HB0 HT0 HS
  unfold tkCells
  go_wp2
  generalize hW3 : World.setCell _ _ _ = W3
  have hR3 : Tb w.heap.size { kind := 4, text := TK } W3 := by rw [← hW3]; exact set10 HT2.out _ _ _ _ _ _ _ _ _ _
  have hB3 : Below w.heap.size w W3 := by rw [← hW3]; exact below_sets HB2.out (Nat.le_refl _) _ _ _ _ _ _ _ _ _ _
  refine bodyPost_ret (results_tok rfl rfl hR3) rfl ⟨?_, hB3⟩
  exact tok_end2 (HTK.out.symm.trans (by rw [Lib.extract_data, HX.out]; simp)) (by omega)


set_option maxRecDepth 100000 in
set_option maxHeartbeats 1000000 in
theorem comment_C2 (s : ByteArray) (n : Nat) (r : List UInt8) (hs : s.size ≤ 268435456) (hr : Ps s n r) (w : World) (hsh : Sh w) (hg : Lib.hasPrefix r [62] = false) (hdg : Lib.hasPrefix r [45, 62] = false) (k m : Nat) (hi : Lib.index r [45, 45, 62] = k) (hj : Lib.index r [45, 45, 33, 62] = m) (hmk : k ≤ m) :
    Calls Tryd.prog 15 #[.string s, .int .i64 n] w (TR w { kind := 4, text := (cm r).1 } (n + (cm r).2.1) (cm r).2.2) := by
  have hn := hr.le
  have hlen := hr.len
  obtain ⟨X, hX⟩ : ∃ X, s.extract n s.size = X := ⟨_, rfl⟩
  have hx : X.data.toList = r := by
    rw [← hX, Lib.extract_data, hr.eq]
    exact List.take_of_length_le (by omega)
  have hxl : X.size = r.length := by rw [← hx]; simp
  have hxs : X.size ≤ 268435456 := by omega
  have HS := Lib.hid hsh
  have HX := Lib.hid hx
  have KE : cmE r = (k, 3) := cmE_2 r k m hi hj hmk
  have KEY : cm r = (wh (r.take k), k + 3, true) := by
    unfold cm
    rw [if_neg (by rw [hg]; decide), if_neg (by rw [hdg]; decide), KE]
    rfl
  rw [KEY]
  have Pg := Lib.hid (fun w => hasP_calls X ⟨#[62]⟩ false (by rw [hx]; exact hg) w)
  have Pdg := Lib.hid (fun w => hasP_calls X ⟨#[45, 62]⟩ false (by rw [hx]; exact hdg) w)
  have ri := Lib.index_room r [45, 45, 62] (by rw [hi]; omega)
  rw [hi] at ri
  simp only [List.length_cons, List.length_nil] at ri
  have ri1 : k < X.size := by omega
  have ri2 : (k : Int) < (X.size : Int) := by omega
  clear ri
  have rj := Lib.index_room r [45, 45, 33, 62] (by rw [hj]; omega)
  rw [hj] at rj
  simp only [List.length_cons, List.length_nil] at rj
  have rj1 : m < X.size := by omega
  have rj2 : (m : Int) < (X.size : Int) := by omega
  clear rj
  have hmk2 : ¬ (m < k) := by omega
  have hmk3 : ¬ ((m : Int) < (k : Int)) := by omega
  have hmk4 : decide (m < k) = false := by simpa using hmk
  have Ii := Lib.hid (fun w (hw : Sh w) => index_calls X ⟨#[45, 45, 62]⟩ hxs k (by rw [hx]; exact hi) w hw)
  have Ij := Lib.hid (fun w (hw : Sh w) => index_calls X ⟨#[45, 45, 33, 62]⟩ hxs m (by rw [hx]; exact hj) w hw)
  clear KE KEY hg hdg hi hj
  obtain ⟨TK, hTK⟩ : ∃ TK, wh ((X.extract 0 k) : ByteArray).data.toList = TK := ⟨_, rfl⟩
  have TC : Hid (∀ (pp : Int) (w : World), Sh w → Calls Tryd.prog 27 #[.string (X.extract 0 k), .int .i64 pp, .bool true] w (TR w { kind := 4, text := TK } pp true)) := fun pp w h => by rw [← hTK]; exact told_calls (X.extract 0 k) pp true (by simp; omega) w h
  have HTK := Lib.hid hTK
  clear hTK
  have hb0 : Below w.heap.size w (w.alloc (.cells #[.int .u8 0, .string ⟨#[]⟩, .slice none 0 0, .bool false, .string ⟨#[]⟩, .string ⟨#[]⟩, .string ⟨#[]⟩, .bool false, .bool false, .bool false] 26)) := (Below.refl _ w).alloc (Nat.le_refl _) _
  have HB0 := Lib.hid hb0
  have HT0 := Lib.hid (Tb.new w)
  have HX0 := Lib.hid hX
  clear hb0 hx hr hsh hX
  have i10 : ∀ w : World, (Instr.index 44 (.agg #[.string ⟨#[62]⟩, .string ⟨#[45, 62]⟩]) (.int .i64 0)).run Tryd.prog w = .ok (.string ⟨#[62]⟩) w := fun _ => by kernel_rfl
  have i11 : ∀ w : World, (Instr.index 44 (.agg #[.string ⟨#[62]⟩, .string ⟨#[45, 62]⟩]) (.int .i64 1)).run Tryd.prog w = .ok (.string ⟨#[45, 62]⟩) w := fun _ => by kernel_rfl
  have i20 : ∀ w : World, (Instr.index 44 (.agg #[.string ⟨#[45, 45, 62]⟩, .string ⟨#[45, 45, 33, 62]⟩]) (.int .i64 0)).run Tryd.prog w = .ok (.string ⟨#[45, 45, 62]⟩) w := fun _ => by kernel_rfl
  have i21 : ∀ w : World, (Instr.index 44 (.agg #[.string ⟨#[45, 45, 62]⟩, .string ⟨#[45, 45, 33, 62]⟩]) (.int .i64 1)).run Tryd.prog w = .ok (.string ⟨#[45, 45, 33, 62]⟩) w := fun _ => by kernel_rfl
  have i30 : ∀ w : World, (Instr.index 46 (.agg #[.string ⟨#[45, 45, 33]⟩, .string ⟨#[45, 45]⟩, .string ⟨#[45]⟩]) (.int .i64 0)).run Tryd.prog w = .ok (.string ⟨#[45, 45, 33]⟩) w := fun _ => by kernel_rfl
  have i31 : ∀ w : World, (Instr.index 46 (.agg #[.string ⟨#[45, 45, 33]⟩, .string ⟨#[45, 45]⟩, .string ⟨#[45]⟩]) (.int .i64 1)).run Tryd.prog w = .ok (.string ⟨#[45, 45]⟩) w := fun _ => by kernel_rfl
  have i32 : ∀ w : World, (Instr.index 46 (.agg #[.string ⟨#[45, 45, 33]⟩, .string ⟨#[45, 45]⟩, .string ⟨#[45]⟩]) (.int .i64 2)).run Tryd.prog w = .ok (.string ⟨#[45]⟩) w := fun _ => by kernel_rfl
  go_enter Tryd.func15, Tryd.ntmps15
  go_wp2_with fail
  rw [HX0.out]
  generalize hW0 : World.alloc _ _ = W0 at *
  clear hW0
  go_wp2_with fail
  refine wp_loop_rounds 3 ?_
  rw [rounds_succ]
  go_wp2_with fail
  refine (Pg.out _).mono ?_
  rintro e w' ⟨rfl, rfl⟩
  go_wp2_with fail
  rw [rounds_succ]
  go_wp2_with fail
  refine (Pdg.out _).mono ?_
  rintro e w' ⟨rfl, rfl⟩
  go_wp2_with fail
  rw [rounds_succ]
  go_wp2_with fail
  refine wp_loop_rounds 3 ?_
  rw [rounds_succ]
  go_wp2_with fail
  refine (Ii.out _ (HS.out.below HB0.out)).mono ?_
  rintro e w' ⟨rfl, rfl⟩
  go_wp2_with fail
  rw [rounds_succ]
  go_wp2_with fail
  refine (Ij.out _ (HS.out.below HB0.out)).mono ?_
  rintro e w' ⟨rfl, rfl⟩
  go_wp2_with fail
  rw [rounds_succ]
  go_wp2_with fail
  refine (TC.out _ _ (HS.out.below HB0.out)).mono ?_
  rintro e w2 ⟨rfl, hb2⟩
  have HB2 := Lib.hid (HB0.out.trans (hb2.mono HB0.out.size))
  have HT2 := Lib.hid (HT0.out.below hb2 HT0.out.lt)
  obtain ⟨c0, c1, c2, c3, c4, c5, c6, c7, c8, c9, fz⟩ := HT2.out.cs
  clear hb2 HB0 HT0 HS
  unfold tkCells
  go_wp2
  generalize hW3 : World.setCell _ _ _ = W3
  have hR3 : Tb w.heap.size { kind := 4, text := TK } W3 := by rw [← hW3]; exact set10 HT2.out _ _ _ _ _ _ _ _ _ _
  have hB3 : Below w.heap.size w W3 := by rw [← hW3]; exact below_sets HB2.out (Nat.le_refl _) _ _ _ _ _ _ _ _ _ _
  refine bodyPost_ret (results_tok rfl rfl hR3) rfl ⟨?_, hB3⟩
  exact tok_end2 (HTK.out.symm.trans (by rw [Lib.extract_data, HX.out]; simp)) (by omega)


set_option maxRecDepth 100000 in
set_option maxHeartbeats 1000000 in
theorem comment_C3 (s : ByteArray) (n : Nat) (r : List UInt8) (hs : s.size ≤ 268435456) (hr : Ps s n r) (w : World) (hsh : Sh w) (hg : Lib.hasPrefix r [62] = false) (hdg : Lib.hasPrefix r [45, 62] = false) (k m : Nat) (hi : Lib.index r [45, 45, 62] = k) (hj : Lib.index r [45, 45, 33, 62] = m) (hmk : m < k) :
    Calls Tryd.prog 15 #[.string s, .int .i64 n] w (TR w { kind := 4, text := (cm r).1 } (n + (cm r).2.1) (cm r).2.2) := by
  have hn := hr.le
  have hlen := hr.len
  obtain ⟨X, hX⟩ : ∃ X, s.extract n s.size = X := ⟨_, rfl⟩
  have hx : X.data.toList = r := by
    rw [← hX, Lib.extract_data, hr.eq]
    exact List.take_of_length_le (by omega)
  have hxl : X.size = r.length := by rw [← hx]; simp
  have hxs : X.size ≤ 268435456 := by omega
  have HS := Lib.hid hsh
  have HX := Lib.hid hx
  have KE : cmE r = (m, 4) := cmE_3 r k m hi hj hmk
  have KEY : cm r = (wh (r.take m), m + 4, true) := by
    unfold cm
    rw [if_neg (by rw [hg]; decide), if_neg (by rw [hdg]; decide), KE]
    rfl
  rw [KEY]
  have Pg := Lib.hid (fun w => hasP_calls X ⟨#[62]⟩ false (by rw [hx]; exact hg) w)
  have Pdg := Lib.hid (fun w => hasP_calls X ⟨#[45, 62]⟩ false (by rw [hx]; exact hdg) w)
  have ri := Lib.index_room r [45, 45, 62] (by rw [hi]; omega)
  rw [hi] at ri
  simp only [List.length_cons, List.length_nil] at ri
  have ri1 : k < X.size := by omega
  have ri2 : (k : Int) < (X.size : Int) := by omega
  clear ri
  have rj := Lib.index_room r [45, 45, 33, 62] (by rw [hj]; omega)
  rw [hj] at rj
  simp only [List.length_cons, List.length_nil] at rj
  have rj1 : m < X.size := by omega
  have rj2 : (m : Int) < (X.size : Int) := by omega
  clear rj
  have hmk3 : ((m : Int) < (k : Int)) := by omega
  have hmk4 : decide (m < k) = true := by simpa using hmk
  have Ii := Lib.hid (fun w (hw : Sh w) => index_calls X ⟨#[45, 45, 62]⟩ hxs k (by rw [hx]; exact hi) w hw)
  have Ij := Lib.hid (fun w (hw : Sh w) => index_calls X ⟨#[45, 45, 33, 62]⟩ hxs m (by rw [hx]; exact hj) w hw)
  clear KE KEY hg hdg hi hj
  obtain ⟨TK, hTK⟩ : ∃ TK, wh ((X.extract 0 m) : ByteArray).data.toList = TK := ⟨_, rfl⟩
  have TC : Hid (∀ (pp : Int) (w : World), Sh w → Calls Tryd.prog 27 #[.string (X.extract 0 m), .int .i64 pp, .bool true] w (TR w { kind := 4, text := TK } pp true)) := fun pp w h => by rw [← hTK]; exact told_calls (X.extract 0 m) pp true (by simp; omega) w h
  have HTK := Lib.hid hTK
  clear hTK
  have hb0 : Below w.heap.size w (w.alloc (.cells #[.int .u8 0, .string ⟨#[]⟩, .slice none 0 0, .bool false, .string ⟨#[]⟩, .string ⟨#[]⟩, .string ⟨#[]⟩, .bool false, .bool false, .bool false] 26)) := (Below.refl _ w).alloc (Nat.le_refl _) _
  have HB0 := Lib.hid hb0
  have HT0 := Lib.hid (Tb.new w)
  have HX0 := Lib.hid hX
  clear hb0 hx hr hsh hX
  have i10 : ∀ w : World, (Instr.index 44 (.agg #[.string ⟨#[62]⟩, .string ⟨#[45, 62]⟩]) (.int .i64 0)).run Tryd.prog w = .ok (.string ⟨#[62]⟩) w := fun _ => by kernel_rfl
  have i11 : ∀ w : World, (Instr.index 44 (.agg #[.string ⟨#[62]⟩, .string ⟨#[45, 62]⟩]) (.int .i64 1)).run Tryd.prog w = .ok (.string ⟨#[45, 62]⟩) w := fun _ => by kernel_rfl
  have i20 : ∀ w : World, (Instr.index 44 (.agg #[.string ⟨#[45, 45, 62]⟩, .string ⟨#[45, 45, 33, 62]⟩]) (.int .i64 0)).run Tryd.prog w = .ok (.string ⟨#[45, 45, 62]⟩) w := fun _ => by kernel_rfl
  have i21 : ∀ w : World, (Instr.index 44 (.agg #[.string ⟨#[45, 45, 62]⟩, .string ⟨#[45, 45, 33, 62]⟩]) (.int .i64 1)).run Tryd.prog w = .ok (.string ⟨#[45, 45, 33, 62]⟩) w := fun _ => by kernel_rfl
  have i30 : ∀ w : World, (Instr.index 46 (.agg #[.string ⟨#[45, 45, 33]⟩, .string ⟨#[45, 45]⟩, .string ⟨#[45]⟩]) (.int .i64 0)).run Tryd.prog w = .ok (.string ⟨#[45, 45, 33]⟩) w := fun _ => by kernel_rfl
  have i31 : ∀ w : World, (Instr.index 46 (.agg #[.string ⟨#[45, 45, 33]⟩, .string ⟨#[45, 45]⟩, .string ⟨#[45]⟩]) (.int .i64 1)).run Tryd.prog w = .ok (.string ⟨#[45, 45]⟩) w := fun _ => by kernel_rfl
  have i32 : ∀ w : World, (Instr.index 46 (.agg #[.string ⟨#[45, 45, 33]⟩, .string ⟨#[45, 45]⟩, .string ⟨#[45]⟩]) (.int .i64 2)).run Tryd.prog w = .ok (.string ⟨#[45]⟩) w := fun _ => by kernel_rfl
  go_enter Tryd.func15, Tryd.ntmps15
  go_wp2_with fail
  rw [HX0.out]
  generalize hW0 : World.alloc _ _ = W0 at *
  clear hW0
  go_wp2_with fail
  refine wp_loop_rounds 3 ?_
  rw [rounds_succ]
  go_wp2_with fail
  refine (Pg.out _).mono ?_
  rintro e w' ⟨rfl, rfl⟩
  go_wp2_with fail
  rw [rounds_succ]
  go_wp2_with fail
  refine (Pdg.out _).mono ?_
  rintro e w' ⟨rfl, rfl⟩
  go_wp2_with fail
  rw [rounds_succ]
  go_wp2_with fail
  refine wp_loop_rounds 3 ?_
  rw [rounds_succ]
  go_wp2_with fail
  refine (Ii.out _ (HS.out.below HB0.out)).mono ?_
  rintro e w' ⟨rfl, rfl⟩
  go_wp2_with fail
  rw [rounds_succ]
  go_wp2_with fail
  refine (Ij.out _ (HS.out.below HB0.out)).mono ?_
  rintro e w' ⟨rfl, rfl⟩
  go_wp2_with fail
  rw [rounds_succ]
  go_wp2_with fail
  refine (TC.out _ _ (HS.out.below HB0.out)).mono ?_
  rintro e w2 ⟨rfl, hb2⟩
  have HB2 := Lib.hid (HB0.out.trans (hb2.mono HB0.out.size))
  have HT2 := Lib.hid (HT0.out.below hb2 HT0.out.lt)
  obtain ⟨c0, c1, c2, c3, c4, c5, c6, c7, c8, c9, fz⟩ := HT2.out.cs
  clear hb2 HB0 HT0 HS
  unfold tkCells
  go_wp2
  generalize hW3 : World.setCell _ _ _ = W3
  have hR3 : Tb w.heap.size { kind := 4, text := TK } W3 := by rw [← hW3]; exact set10 HT2.out _ _ _ _ _ _ _ _ _ _
  have hB3 : Below w.heap.size w W3 := by rw [← hW3]; exact below_sets HB2.out (Nat.le_refl _) _ _ _ _ _ _ _ _ _ _
  refine bodyPost_ret (results_tok rfl rfl hR3) rfl ⟨?_, hB3⟩
  exact tok_end2 (HTK.out.symm.trans (by rw [Lib.extract_data, HX.out]; simp)) (by omega)


set_option maxRecDepth 100000 in
set_option maxHeartbeats 1000000 in
theorem comment_C4 (s : ByteArray) (n : Nat) (r : List UInt8) (hs : s.size ≤ 268435456) (hr : Ps s n r) (w : World) (hsh : Sh w) (hg : Lib.hasPrefix r [62] = false) (hdg : Lib.hasPrefix r [45, 62] = false) (m : Nat) (hi : Lib.index r [45, 45, 62] = -1) (hj : Lib.index r [45, 45, 33, 62] = m) :
    Calls Tryd.prog 15 #[.string s, .int .i64 n] w (TR w { kind := 4, text := (cm r).1 } (n + (cm r).2.1) (cm r).2.2) := by
  have hn := hr.le
  have hlen := hr.len
  obtain ⟨X, hX⟩ : ∃ X, s.extract n s.size = X := ⟨_, rfl⟩
  have hx : X.data.toList = r := by
    rw [← hX, Lib.extract_data, hr.eq]
    exact List.take_of_length_le (by omega)
  have hxl : X.size = r.length := by rw [← hx]; simp
  have hxs : X.size ≤ 268435456 := by omega
  have HS := Lib.hid hsh
  have HX := Lib.hid hx
  have rk := Lib.index_room r [45, 45, 33, 62] (by rw [hj]; omega)
  rw [hj] at rk
  simp only [List.length_cons, List.length_nil] at rk
  have KE : cmE r = (m, 4) := cmE_4 r m hi hj (by omega)
  have KEY : cm r = (wh (r.take m), m + 4, true) := by
    unfold cm
    rw [if_neg (by rw [hg]; decide), if_neg (by rw [hdg]; decide), KE]
    rfl
  rw [KEY]
  have Pg := Lib.hid (fun w => hasP_calls X ⟨#[62]⟩ false (by rw [hx]; exact hg) w)
  have Pdg := Lib.hid (fun w => hasP_calls X ⟨#[45, 62]⟩ false (by rw [hx]; exact hdg) w)
  have rj := Lib.index_room r [45, 45, 33, 62] (by rw [hj]; omega)
  rw [hj] at rj
  simp only [List.length_cons, List.length_nil] at rj
  have rj1 : m < X.size := by omega
  have rj2 : (m : Int) < (X.size : Int) := by omega
  clear rj
  have Ii := Lib.hid (fun w (hw : Sh w) => index_calls X ⟨#[45, 45, 62]⟩ hxs (-1) (by rw [hx]; exact hi) w hw)
  have Ij := Lib.hid (fun w (hw : Sh w) => index_calls X ⟨#[45, 45, 33, 62]⟩ hxs m (by rw [hx]; exact hj) w hw)
  clear KE KEY hg hdg hi hj rk
  obtain ⟨TK, hTK⟩ : ∃ TK, wh ((X.extract 0 m) : ByteArray).data.toList = TK := ⟨_, rfl⟩
  have TC : Hid (∀ (pp : Int) (w : World), Sh w → Calls Tryd.prog 27 #[.string (X.extract 0 m), .int .i64 pp, .bool true] w (TR w { kind := 4, text := TK } pp true)) := fun pp w h => by rw [← hTK]; exact told_calls (X.extract 0 m) pp true (by simp; omega) w h
  have HTK := Lib.hid hTK
  clear hTK
  have hb0 : Below w.heap.size w (w.alloc (.cells #[.int .u8 0, .string ⟨#[]⟩, .slice none 0 0, .bool false, .string ⟨#[]⟩, .string ⟨#[]⟩, .string ⟨#[]⟩, .bool false, .bool false, .bool false] 26)) := (Below.refl _ w).alloc (Nat.le_refl _) _
  have HB0 := Lib.hid hb0
  have HT0 := Lib.hid (Tb.new w)
  have HX0 := Lib.hid hX
  clear hb0 hx hr hsh hX
  have i10 : ∀ w : World, (Instr.index 44 (.agg #[.string ⟨#[62]⟩, .string ⟨#[45, 62]⟩]) (.int .i64 0)).run Tryd.prog w = .ok (.string ⟨#[62]⟩) w := fun _ => by kernel_rfl
  have i11 : ∀ w : World, (Instr.index 44 (.agg #[.string ⟨#[62]⟩, .string ⟨#[45, 62]⟩]) (.int .i64 1)).run Tryd.prog w = .ok (.string ⟨#[45, 62]⟩) w := fun _ => by kernel_rfl
  have i20 : ∀ w : World, (Instr.index 44 (.agg #[.string ⟨#[45, 45, 62]⟩, .string ⟨#[45, 45, 33, 62]⟩]) (.int .i64 0)).run Tryd.prog w = .ok (.string ⟨#[45, 45, 62]⟩) w := fun _ => by kernel_rfl
  have i21 : ∀ w : World, (Instr.index 44 (.agg #[.string ⟨#[45, 45, 62]⟩, .string ⟨#[45, 45, 33, 62]⟩]) (.int .i64 1)).run Tryd.prog w = .ok (.string ⟨#[45, 45, 33, 62]⟩) w := fun _ => by kernel_rfl
  have i30 : ∀ w : World, (Instr.index 46 (.agg #[.string ⟨#[45, 45, 33]⟩, .string ⟨#[45, 45]⟩, .string ⟨#[45]⟩]) (.int .i64 0)).run Tryd.prog w = .ok (.string ⟨#[45, 45, 33]⟩) w := fun _ => by kernel_rfl
  have i31 : ∀ w : World, (Instr.index 46 (.agg #[.string ⟨#[45, 45, 33]⟩, .string ⟨#[45, 45]⟩, .string ⟨#[45]⟩]) (.int .i64 1)).run Tryd.prog w = .ok (.string ⟨#[45, 45]⟩) w := fun _ => by kernel_rfl
  have i32 : ∀ w : World, (Instr.index 46 (.agg #[.string ⟨#[45, 45, 33]⟩, .string ⟨#[45, 45]⟩, .string ⟨#[45]⟩]) (.int .i64 2)).run Tryd.prog w = .ok (.string ⟨#[45]⟩) w := fun _ => by kernel_rfl
  go_enter Tryd.func15, Tryd.ntmps15
  go_wp2_with fail
  rw [HX0.out]
  generalize hW0 : World.alloc _ _ = W0 at *
  clear hW0
  go_wp2_with fail
  refine wp_loop_rounds 3 ?_
  rw [rounds_succ]
  go_wp2_with fail
  refine (Pg.out _).mono ?_
  rintro e w' ⟨rfl, rfl⟩
  go_wp2_with fail
  rw [rounds_succ]
  go_wp2_with fail
  refine (Pdg.out _).mono ?_
  rintro e w' ⟨rfl, rfl⟩
  go_wp2_with fail
  rw [rounds_succ]
  go_wp2_with fail
  refine wp_loop_rounds 3 ?_
  rw [rounds_succ]
  go_wp2_with fail
  refine (Ii.out _ (HS.out.below HB0.out)).mono ?_
  rintro e w' ⟨rfl, rfl⟩
  go_wp2_with fail
  rw [rounds_succ]
  go_wp2_with fail
  refine (Ij.out _ (HS.out.below HB0.out)).mono ?_
  rintro e w' ⟨rfl, rfl⟩
  go_wp2_with fail
  rw [rounds_succ]
  go_wp2_with fail
  refine (TC.out _ _ (HS.out.below HB0.out)).mono ?_
  rintro e w2 ⟨rfl, hb2⟩
  have HB2 := Lib.hid (HB0.out.trans (hb2.mono HB0.out.size))
  have HT2 := Lib.hid (HT0.out.below hb2 HT0.out.lt)
  obtain ⟨c0, c1, c2, c3, c4, c5, c6, c7, c8, c9, fz⟩ := HT2.out.cs
  clear hb2 HB0 HT0 HS
  unfold tkCells
  go_wp2
  generalize hW3 : World.setCell _ _ _ = W3
  have hR3 : Tb w.heap.size { kind := 4, text := TK } W3 := by rw [← hW3]; exact set10 HT2.out _ _ _ _ _ _ _ _ _ _
  have hB3 : Below w.heap.size w W3 := by rw [← hW3]; exact below_sets HB2.out (Nat.le_refl _) _ _ _ _ _ _ _ _ _ _
  refine bodyPost_ret (results_tok rfl rfl hR3) rfl ⟨?_, hB3⟩
  exact tok_end2 (HTK.out.symm.trans (by rw [Lib.extract_data, HX.out]; simp)) (by omega)


set_option maxRecDepth 100000 in
set_option maxHeartbeats 1000000 in
theorem comment_D1 (s : ByteArray) (n : Nat) (r : List UInt8) (hs : s.size ≤ 268435456) (hr : Ps s n r) (w : World) (hsh : Sh w) (hg : Lib.hasPrefix r [62] = false) (hdg : Lib.hasPrefix r [45, 62] = false) (hi : Lib.index r [45, 45, 62] = -1) (hj : Lib.index r [45, 45, 33, 62] = -1) (hddb : Lib.hasSuffix r [45, 45, 33] = true) :
    Calls Tryd.prog 15 #[.string s, .int .i64 n] w (TR w { kind := 4, text := (cm r).1 } (n + (cm r).2.1) (cm r).2.2) := by
  have hn := hr.le
  have hlen := hr.len
  obtain ⟨X, hX⟩ : ∃ X, s.extract n s.size = X := ⟨_, rfl⟩
  have hx : X.data.toList = r := by
    rw [← hX, Lib.extract_data, hr.eq]
    exact List.take_of_length_le (by omega)
  have hxl : X.size = r.length := by rw [← hx]; simp
  have hxs : X.size ≤ 268435456 := by omega
  have HS := Lib.hid hsh
  have HX := Lib.hid hx
  have KB : cmB r = 3 := by
    unfold cmB
    rw [if_pos (by rw [hddb])]
  have KE : (cmE r).2 = 0 := by
    unfold cmE
    rw [hi, hj]
    rfl
  have KEY : cm r = (wh (r.take (r.length - 3)), r.length, false) := by
    unfold cm
    rw [if_neg (by rw [hg]; decide), if_neg (by rw [hdg]; decide), if_neg (by rw [KE]; omega), KB]
  rw [KEY]
  have Pg := Lib.hid (fun w => hasP_calls X ⟨#[62]⟩ false (by rw [hx]; exact hg) w)
  have Pdg := Lib.hid (fun w => hasP_calls X ⟨#[45, 62]⟩ false (by rw [hx]; exact hdg) w)
  have Ii := Lib.hid (fun w (hw : Sh w) => index_calls X ⟨#[45, 45, 62]⟩ hxs (-1) (by rw [hx]; exact hi) w hw)
  have Ij := Lib.hid (fun w (hw : Sh w) => index_calls X ⟨#[45, 45, 33, 62]⟩ hxs (-1) (by rw [hx]; exact hj) w hw)
  have Sddb := Lib.hid (fun w => cutS_calls X ⟨#[45, 45, 33]⟩ hxs true (⟨(Lib.trimSuffix r [45, 45, 33]).toArray⟩ : ByteArray) (by rw [hx]; exact hddb) (by rw [hx]) w)
  have HSF := Lib.hid hddb
  clear KE KEY KB hg hdg hi hj hddb
  obtain ⟨TK, hTK⟩ : ∃ TK, wh ((⟨(Lib.trimSuffix r [45, 45, 33]).toArray⟩ : ByteArray) : ByteArray).data.toList = TK := ⟨_, rfl⟩
  have TC : Hid (∀ (pp : Int) (w : World), Sh w → Calls Tryd.prog 27 #[.string (⟨(Lib.trimSuffix r [45, 45, 33]).toArray⟩ : ByteArray), .int .i64 pp, .bool false] w (TR w { kind := 4, text := TK } pp false)) := fun pp w h => by rw [← hTK]; exact told_calls (⟨(Lib.trimSuffix r [45, 45, 33]).toArray⟩ : ByteArray) pp false (by rw [size_arr]; have := (Lib.trimSuffix_le r [45, 45, 33]); omega) w h
  have HTK := Lib.hid hTK
  clear hTK
  have hb0 : Below w.heap.size w (w.alloc (.cells #[.int .u8 0, .string ⟨#[]⟩, .slice none 0 0, .bool false, .string ⟨#[]⟩, .string ⟨#[]⟩, .string ⟨#[]⟩, .bool false, .bool false, .bool false] 26)) := (Below.refl _ w).alloc (Nat.le_refl _) _
  have HB0 := Lib.hid hb0
  have HT0 := Lib.hid (Tb.new w)
  have HX0 := Lib.hid hX
  clear hb0 hx hr hsh hX
  have i10 : ∀ w : World, (Instr.index 44 (.agg #[.string ⟨#[62]⟩, .string ⟨#[45, 62]⟩]) (.int .i64 0)).run Tryd.prog w = .ok (.string ⟨#[62]⟩) w := fun _ => by kernel_rfl
  have i11 : ∀ w : World, (Instr.index 44 (.agg #[.string ⟨#[62]⟩, .string ⟨#[45, 62]⟩]) (.int .i64 1)).run Tryd.prog w = .ok (.string ⟨#[45, 62]⟩) w := fun _ => by kernel_rfl
  have i20 : ∀ w : World, (Instr.index 44 (.agg #[.string ⟨#[45, 45, 62]⟩, .string ⟨#[45, 45, 33, 62]⟩]) (.int .i64 0)).run Tryd.prog w = .ok (.string ⟨#[45, 45, 62]⟩) w := fun _ => by kernel_rfl
  have i21 : ∀ w : World, (Instr.index 44 (.agg #[.string ⟨#[45, 45, 62]⟩, .string ⟨#[45, 45, 33, 62]⟩]) (.int .i64 1)).run Tryd.prog w = .ok (.string ⟨#[45, 45, 33, 62]⟩) w := fun _ => by kernel_rfl
  have i30 : ∀ w : World, (Instr.index 46 (.agg #[.string ⟨#[45, 45, 33]⟩, .string ⟨#[45, 45]⟩, .string ⟨#[45]⟩]) (.int .i64 0)).run Tryd.prog w = .ok (.string ⟨#[45, 45, 33]⟩) w := fun _ => by kernel_rfl
  have i31 : ∀ w : World, (Instr.index 46 (.agg #[.string ⟨#[45, 45, 33]⟩, .string ⟨#[45, 45]⟩, .string ⟨#[45]⟩]) (.int .i64 1)).run Tryd.prog w = .ok (.string ⟨#[45, 45]⟩) w := fun _ => by kernel_rfl
  have i32 : ∀ w : World, (Instr.index 46 (.agg #[.string ⟨#[45, 45, 33]⟩, .string ⟨#[45, 45]⟩, .string ⟨#[45]⟩]) (.int .i64 2)).run Tryd.prog w = .ok (.string ⟨#[45]⟩) w := fun _ => by kernel_rfl
  go_enter Tryd.func15, Tryd.ntmps15
  go_wp2_with fail
  rw [HX0.out]
  generalize hW0 : World.alloc _ _ = W0 at *
  clear hW0
  go_wp2_with fail
  refine wp_loop_rounds 3 ?_
  rw [rounds_succ]
  go_wp2_with fail
  refine (Pg.out _).mono ?_
  rintro e w' ⟨rfl, rfl⟩
  go_wp2_with fail
  rw [rounds_succ]
  go_wp2_with fail
  refine (Pdg.out _).mono ?_
  rintro e w' ⟨rfl, rfl⟩
  go_wp2_with fail
  rw [rounds_succ]
  go_wp2_with fail
  refine wp_loop_rounds 3 ?_
  rw [rounds_succ]
  go_wp2_with fail
  refine (Ii.out _ (HS.out.below HB0.out)).mono ?_
  rintro e w' ⟨rfl, rfl⟩
  go_wp2_with fail
  rw [rounds_succ]
  go_wp2_with fail
  refine (Ij.out _ (HS.out.below HB0.out)).mono ?_
  rintro e w' ⟨rfl, rfl⟩
  go_wp2_with fail
  rw [rounds_succ]
  go_wp2_with fail
  refine wp_loop_rounds 4 ?_
  rw [rounds_succ]
  go_wp2_with fail
  refine (Sddb.out _).mono ?_
  rintro e w' ⟨rfl, rfl⟩
  go_wp2_with fail
  refine (TC.out _ _ (HS.out.below HB0.out)).mono ?_
  rintro e w2 ⟨rfl, hb2⟩
  have HB2 := Lib.hid (HB0.out.trans (hb2.mono HB0.out.size))
  have HT2 := Lib.hid (HT0.out.below hb2 HT0.out.lt)
  obtain ⟨c0, c1, c2, c3, c4, c5, c6, c7, c8, c9, fz⟩ := HT2.out.cs
  clear hb2 HB0 HT0 HS
  unfold tkCells
  go_wp2
  generalize hW3 : World.setCell _ _ _ = W3
  have hR3 : Tb w.heap.size { kind := 4, text := TK } W3 := by rw [← hW3]; exact set10 HT2.out _ _ _ _ _ _ _ _ _ _
  have hB3 : Below w.heap.size w W3 := by rw [← hW3]; exact below_sets HB2.out (Nat.le_refl _) _ _ _ _ _ _ _ _ _ _
  refine bodyPost_ret (results_tok rfl rfl hR3) rfl ⟨?_, hB3⟩
  exact tok_end2 (HTK.out.symm.trans (by simp only [Lib.trimSuffix, if_pos HSF.out]; rfl)) (by omega)


set_option maxRecDepth 100000 in
set_option maxHeartbeats 1000000 in
theorem comment_D2 (s : ByteArray) (n : Nat) (r : List UInt8) (hs : s.size ≤ 268435456) (hr : Ps s n r) (w : World) (hsh : Sh w) (hg : Lib.hasPrefix r [62] = false) (hdg : Lib.hasPrefix r [45, 62] = false) (hi : Lib.index r [45, 45, 62] = -1) (hj : Lib.index r [45, 45, 33, 62] = -1) (hddb : Lib.hasSuffix r [45, 45, 33] = false) (hdd : Lib.hasSuffix r [45, 45] = true) :
    Calls Tryd.prog 15 #[.string s, .int .i64 n] w (TR w { kind := 4, text := (cm r).1 } (n + (cm r).2.1) (cm r).2.2) := by
  have hn := hr.le
  have hlen := hr.len
  obtain ⟨X, hX⟩ : ∃ X, s.extract n s.size = X := ⟨_, rfl⟩
  have hx : X.data.toList = r := by
    rw [← hX, Lib.extract_data, hr.eq]
    exact List.take_of_length_le (by omega)
  have hxl : X.size = r.length := by rw [← hx]; simp
  have hxs : X.size ≤ 268435456 := by omega
  have HS := Lib.hid hsh
  have HX := Lib.hid hx
  have KB : cmB r = 2 := by
    unfold cmB
    rw [if_neg (by rw [hddb]; decide)]; rw [if_pos (by rw [hdd])]
  have KE : (cmE r).2 = 0 := by
    unfold cmE
    rw [hi, hj]
    rfl
  have KEY : cm r = (wh (r.take (r.length - 2)), r.length, false) := by
    unfold cm
    rw [if_neg (by rw [hg]; decide), if_neg (by rw [hdg]; decide), if_neg (by rw [KE]; omega), KB]
  rw [KEY]
  have Pg := Lib.hid (fun w => hasP_calls X ⟨#[62]⟩ false (by rw [hx]; exact hg) w)
  have Pdg := Lib.hid (fun w => hasP_calls X ⟨#[45, 62]⟩ false (by rw [hx]; exact hdg) w)
  have Ii := Lib.hid (fun w (hw : Sh w) => index_calls X ⟨#[45, 45, 62]⟩ hxs (-1) (by rw [hx]; exact hi) w hw)
  have Ij := Lib.hid (fun w (hw : Sh w) => index_calls X ⟨#[45, 45, 33, 62]⟩ hxs (-1) (by rw [hx]; exact hj) w hw)
  have Sddb := Lib.hid (fun w => cutS_calls X ⟨#[45, 45, 33]⟩ hxs false (⟨(Lib.trimSuffix r [45, 45, 33]).toArray⟩ : ByteArray) (by rw [hx]; exact hddb) (by rw [hx]) w)
  have Sdd := Lib.hid (fun w => cutS_calls X ⟨#[45, 45]⟩ hxs true (⟨(Lib.trimSuffix r [45, 45]).toArray⟩ : ByteArray) (by rw [hx]; exact hdd) (by rw [hx]) w)
  have HSF := Lib.hid hdd
  clear KE KEY KB hg hdg hi hj hddb hdd
  obtain ⟨TK, hTK⟩ : ∃ TK, wh ((⟨(Lib.trimSuffix r [45, 45]).toArray⟩ : ByteArray) : ByteArray).data.toList = TK := ⟨_, rfl⟩
  have TC : Hid (∀ (pp : Int) (w : World), Sh w → Calls Tryd.prog 27 #[.string (⟨(Lib.trimSuffix r [45, 45]).toArray⟩ : ByteArray), .int .i64 pp, .bool false] w (TR w { kind := 4, text := TK } pp false)) := fun pp w h => by rw [← hTK]; exact told_calls (⟨(Lib.trimSuffix r [45, 45]).toArray⟩ : ByteArray) pp false (by rw [size_arr]; have := (Lib.trimSuffix_le r [45, 45]); omega) w h
  have HTK := Lib.hid hTK
  clear hTK
  have hb0 : Below w.heap.size w (w.alloc (.cells #[.int .u8 0, .string ⟨#[]⟩, .slice none 0 0, .bool false, .string ⟨#[]⟩, .string ⟨#[]⟩, .string ⟨#[]⟩, .bool false, .bool false, .bool false] 26)) := (Below.refl _ w).alloc (Nat.le_refl _) _
  have HB0 := Lib.hid hb0
  have HT0 := Lib.hid (Tb.new w)
  have HX0 := Lib.hid hX
  clear hb0 hx hr hsh hX
  have i10 : ∀ w : World, (Instr.index 44 (.agg #[.string ⟨#[62]⟩, .string ⟨#[45, 62]⟩]) (.int .i64 0)).run Tryd.prog w = .ok (.string ⟨#[62]⟩) w := fun _ => by kernel_rfl
  have i11 : ∀ w : World, (Instr.index 44 (.agg #[.string ⟨#[62]⟩, .string ⟨#[45, 62]⟩]) (.int .i64 1)).run Tryd.prog w = .ok (.string ⟨#[45, 62]⟩) w := fun _ => by kernel_rfl
  have i20 : ∀ w : World, (Instr.index 44 (.agg #[.string ⟨#[45, 45, 62]⟩, .string ⟨#[45, 45, 33, 62]⟩]) (.int .i64 0)).run Tryd.prog w = .ok (.string ⟨#[45, 45, 62]⟩) w := fun _ => by kernel_rfl
  have i21 : ∀ w : World, (Instr.index 44 (.agg #[.string ⟨#[45, 45, 62]⟩, .string ⟨#[45, 45, 33, 62]⟩]) (.int .i64 1)).run Tryd.prog w = .ok (.string ⟨#[45, 45, 33, 62]⟩) w := fun _ => by kernel_rfl
  have i30 : ∀ w : World, (Instr.index 46 (.agg #[.string ⟨#[45, 45, 33]⟩, .string ⟨#[45, 45]⟩, .string ⟨#[45]⟩]) (.int .i64 0)).run Tryd.prog w = .ok (.string ⟨#[45, 45, 33]⟩) w := fun _ => by kernel_rfl
  have i31 : ∀ w : World, (Instr.index 46 (.agg #[.string ⟨#[45, 45, 33]⟩, .string ⟨#[45, 45]⟩, .string ⟨#[45]⟩]) (.int .i64 1)).run Tryd.prog w = .ok (.string ⟨#[45, 45]⟩) w := fun _ => by kernel_rfl
  have i32 : ∀ w : World, (Instr.index 46 (.agg #[.string ⟨#[45, 45, 33]⟩, .string ⟨#[45, 45]⟩, .string ⟨#[45]⟩]) (.int .i64 2)).run Tryd.prog w = .ok (.string ⟨#[45]⟩) w := fun _ => by kernel_rfl
  go_enter Tryd.func15, Tryd.ntmps15
  go_wp2_with fail
  rw [HX0.out]
  generalize hW0 : World.alloc _ _ = W0 at *
  clear hW0
  go_wp2_with fail
  refine wp_loop_rounds 3 ?_
  rw [rounds_succ]
  go_wp2_with fail
  refine (Pg.out _).mono ?_
  rintro e w' ⟨rfl, rfl⟩
  go_wp2_with fail
  rw [rounds_succ]
  go_wp2_with fail
  refine (Pdg.out _).mono ?_
  rintro e w' ⟨rfl, rfl⟩
  go_wp2_with fail
  rw [rounds_succ]
  go_wp2_with fail
  refine wp_loop_rounds 3 ?_
  rw [rounds_succ]
  go_wp2_with fail
  refine (Ii.out _ (HS.out.below HB0.out)).mono ?_
  rintro e w' ⟨rfl, rfl⟩
  go_wp2_with fail
  rw [rounds_succ]
  go_wp2_with fail
  refine (Ij.out _ (HS.out.below HB0.out)).mono ?_
  rintro e w' ⟨rfl, rfl⟩
  go_wp2_with fail
  rw [rounds_succ]
  go_wp2_with fail
  refine wp_loop_rounds 4 ?_
  rw [rounds_succ]
  go_wp2_with fail
  refine (Sddb.out _).mono ?_
  rintro e w' ⟨rfl, rfl⟩
  go_wp2_with fail
  rw [rounds_succ]
  go_wp2_with fail
  refine (Sdd.out _).mono ?_
  rintro e w' ⟨rfl, rfl⟩
  go_wp2_with fail
  refine (TC.out _ _ (HS.out.below HB0.out)).mono ?_
  rintro e w2 ⟨rfl, hb2⟩
  have HB2 := Lib.hid (HB0.out.trans (hb2.mono HB0.out.size))
  have HT2 := Lib.hid (HT0.out.below hb2 HT0.out.lt)
  obtain ⟨c0, c1, c2, c3, c4, c5, c6, c7, c8, c9, fz⟩ := HT2.out.cs
  clear hb2 HB0 HT0 HS
  unfold tkCells
  go_wp2
  generalize hW3 : World.setCell _ _ _ = W3
  have hR3 : Tb w.heap.size { kind := 4, text := TK } W3 := by rw [← hW3]; exact set10 HT2.out _ _ _ _ _ _ _ _ _ _
  have hB3 : Below w.heap.size w W3 := by rw [← hW3]; exact below_sets HB2.out (Nat.le_refl _) _ _ _ _ _ _ _ _ _ _
  refine bodyPost_ret (results_tok rfl rfl hR3) rfl ⟨?_, hB3⟩
  exact tok_end2 (HTK.out.symm.trans (by simp only [Lib.trimSuffix, if_pos HSF.out]; rfl)) (by omega)


set_option maxRecDepth 100000 in
set_option maxHeartbeats 1000000 in
theorem comment_D3 (s : ByteArray) (n : Nat) (r : List UInt8) (hs : s.size ≤ 268435456) (hr : Ps s n r) (w : World) (hsh : Sh w) (hg : Lib.hasPrefix r [62] = false) (hdg : Lib.hasPrefix r [45, 62] = false) (hi : Lib.index r [45, 45, 62] = -1) (hj : Lib.index r [45, 45, 33, 62] = -1) (hddb : Lib.hasSuffix r [45, 45, 33] = false) (hdd : Lib.hasSuffix r [45, 45] = false) (hd : Lib.hasSuffix r [45] = true) :
    Calls Tryd.prog 15 #[.string s, .int .i64 n] w (TR w { kind := 4, text := (cm r).1 } (n + (cm r).2.1) (cm r).2.2) := by
  have hn := hr.le
  have hlen := hr.len
  obtain ⟨X, hX⟩ : ∃ X, s.extract n s.size = X := ⟨_, rfl⟩
  have hx : X.data.toList = r := by
    rw [← hX, Lib.extract_data, hr.eq]
    exact List.take_of_length_le (by omega)
  have hxl : X.size = r.length := by rw [← hx]; simp
  have hxs : X.size ≤ 268435456 := by omega
  have HS := Lib.hid hsh
  have HX := Lib.hid hx
  have KB : cmB r = 1 := by
    unfold cmB
    rw [if_neg (by rw [hddb]; decide)]; rw [if_neg (by rw [hdd]; decide)]; rw [if_pos (by rw [hd])]
  have KE : (cmE r).2 = 0 := by
    unfold cmE
    rw [hi, hj]
    rfl
  have KEY : cm r = (wh (r.take (r.length - 1)), r.length, false) := by
    unfold cm
    rw [if_neg (by rw [hg]; decide), if_neg (by rw [hdg]; decide), if_neg (by rw [KE]; omega), KB]
  rw [KEY]
  have Pg := Lib.hid (fun w => hasP_calls X ⟨#[62]⟩ false (by rw [hx]; exact hg) w)
  have Pdg := Lib.hid (fun w => hasP_calls X ⟨#[45, 62]⟩ false (by rw [hx]; exact hdg) w)
  have Ii := Lib.hid (fun w (hw : Sh w) => index_calls X ⟨#[45, 45, 62]⟩ hxs (-1) (by rw [hx]; exact hi) w hw)
  have Ij := Lib.hid (fun w (hw : Sh w) => index_calls X ⟨#[45, 45, 33, 62]⟩ hxs (-1) (by rw [hx]; exact hj) w hw)
  have Sddb := Lib.hid (fun w => cutS_calls X ⟨#[45, 45, 33]⟩ hxs false (⟨(Lib.trimSuffix r [45, 45, 33]).toArray⟩ : ByteArray) (by rw [hx]; exact hddb) (by rw [hx]) w)
  have Sdd := Lib.hid (fun w => cutS_calls X ⟨#[45, 45]⟩ hxs false (⟨(Lib.trimSuffix r [45, 45]).toArray⟩ : ByteArray) (by rw [hx]; exact hdd) (by rw [hx]) w)
  have Sd := Lib.hid (fun w => cutS_calls X ⟨#[45]⟩ hxs true (⟨(Lib.trimSuffix r [45]).toArray⟩ : ByteArray) (by rw [hx]; exact hd) (by rw [hx]) w)
  have HSF := Lib.hid hd
  clear KE KEY KB hg hdg hi hj hddb hdd hd
  obtain ⟨TK, hTK⟩ : ∃ TK, wh ((⟨(Lib.trimSuffix r [45]).toArray⟩ : ByteArray) : ByteArray).data.toList = TK := ⟨_, rfl⟩
  have TC : Hid (∀ (pp : Int) (w : World), Sh w → Calls Tryd.prog 27 #[.string (⟨(Lib.trimSuffix r [45]).toArray⟩ : ByteArray), .int .i64 pp, .bool false] w (TR w { kind := 4, text := TK } pp false)) := fun pp w h => by rw [← hTK]; exact told_calls (⟨(Lib.trimSuffix r [45]).toArray⟩ : ByteArray) pp false (by rw [size_arr]; have := (Lib.trimSuffix_le r [45]); omega) w h
  have HTK := Lib.hid hTK
  clear hTK
  have hb0 : Below w.heap.size w (w.alloc (.cells #[.int .u8 0, .string ⟨#[]⟩, .slice none 0 0, .bool false, .string ⟨#[]⟩, .string ⟨#[]⟩, .string ⟨#[]⟩, .bool false, .bool false, .bool false] 26)) := (Below.refl _ w).alloc (Nat.le_refl _) _
  have HB0 := Lib.hid hb0
  have HT0 := Lib.hid (Tb.new w)
  have HX0 := Lib.hid hX
  clear hb0 hx hr hsh hX
  have i10 : ∀ w : World, (Instr.index 44 (.agg #[.string ⟨#[62]⟩, .string ⟨#[45, 62]⟩]) (.int .i64 0)).run Tryd.prog w = .ok (.string ⟨#[62]⟩) w := fun _ => by kernel_rfl
  have i11 : ∀ w : World, (Instr.index 44 (.agg #[.string ⟨#[62]⟩, .string ⟨#[45, 62]⟩]) (.int .i64 1)).run Tryd.prog w = .ok (.string ⟨#[45, 62]⟩) w := fun _ => by kernel_rfl
  have i20 : ∀ w : World, (Instr.index 44 (.agg #[.string ⟨#[45, 45, 62]⟩, .string ⟨#[45, 45, 33, 62]⟩]) (.int .i64 0)).run Tryd.prog w = .ok (.string ⟨#[45, 45, 62]⟩) w := fun _ => by kernel_rfl
  have i21 : ∀ w : World, (Instr.index 44 (.agg #[.string ⟨#[45, 45, 62]⟩, .string ⟨#[45, 45, 33, 62]⟩]) (.int .i64 1)).run Tryd.prog w = .ok (.string ⟨#[45, 45, 33, 62]⟩) w := fun _ => by kernel_rfl
  have i30 : ∀ w : World, (Instr.index 46 (.agg #[.string ⟨#[45, 45, 33]⟩, .string ⟨#[45, 45]⟩, .string ⟨#[45]⟩]) (.int .i64 0)).run Tryd.prog w = .ok (.string ⟨#[45, 45, 33]⟩) w := fun _ => by kernel_rfl
  have i31 : ∀ w : World, (Instr.index 46 (.agg #[.string ⟨#[45, 45, 33]⟩, .string ⟨#[45, 45]⟩, .string ⟨#[45]⟩]) (.int .i64 1)).run Tryd.prog w = .ok (.string ⟨#[45, 45]⟩) w := fun _ => by kernel_rfl
  have i32 : ∀ w : World, (Instr.index 46 (.agg #[.string ⟨#[45, 45, 33]⟩, .string ⟨#[45, 45]⟩, .string ⟨#[45]⟩]) (.int .i64 2)).run Tryd.prog w = .ok (.string ⟨#[45]⟩) w := fun _ => by kernel_rfl
  go_enter Tryd.func15, Tryd.ntmps15
  go_wp2_with fail
  rw [HX0.out]
  generalize hW0 : World.alloc _ _ = W0 at *
  clear hW0
  go_wp2_with fail
  refine wp_loop_rounds 3 ?_
  rw [rounds_succ]
  go_wp2_with fail
  refine (Pg.out _).mono ?_
  rintro e w' ⟨rfl, rfl⟩
  go_wp2_with fail
  rw [rounds_succ]
  go_wp2_with fail
  refine (Pdg.out _).mono ?_
  rintro e w' ⟨rfl, rfl⟩
  go_wp2_with fail
  rw [rounds_succ]
  go_wp2_with fail
  refine wp_loop_rounds 3 ?_
  rw [rounds_succ]
  go_wp2_with fail
  refine (Ii.out _ (HS.out.below HB0.out)).mono ?_
  rintro e w' ⟨rfl, rfl⟩
  go_wp2_with fail
  rw [rounds_succ]
  go_wp2_with fail
  refine (Ij.out _ (HS.out.below HB0.out)).mono ?_
  rintro e w' ⟨rfl, rfl⟩
  go_wp2_with fail
  rw [rounds_succ]
  go_wp2_with fail
  refine wp_loop_rounds 4 ?_
  rw [rounds_succ]
  go_wp2_with fail
  refine (Sddb.out _).mono ?_
  rintro e w' ⟨rfl, rfl⟩
  go_wp2_with fail
  rw [rounds_succ]
  go_wp2_with fail
  refine (Sdd.out _).mono ?_
  rintro e w' ⟨rfl, rfl⟩
  go_wp2_with fail
  rw [rounds_succ]
  go_wp2_with fail
  refine (Sd.out _).mono ?_
  rintro e w' ⟨rfl, rfl⟩
  go_wp2_with fail
  refine (TC.out _ _ (HS.out.below HB0.out)).mono ?_
  rintro e w2 ⟨rfl, hb2⟩
  have HB2 := Lib.hid (HB0.out.trans (hb2.mono HB0.out.size))
  have HT2 := Lib.hid (HT0.out.below hb2 HT0.out.lt)
  obtain ⟨c0, c1, c2, c3, c4, c5, c6, c7, c8, c9, fz⟩ := HT2.out.cs
  clear hb2 HB0 HT0 HS
  unfold tkCells
  go_wp2
  generalize hW3 : World.setCell _ _ _ = W3
  have hR3 : Tb w.heap.size { kind := 4, text := TK } W3 := by rw [← hW3]; exact set10 HT2.out _ _ _ _ _ _ _ _ _ _
  have hB3 : Below w.heap.size w W3 := by rw [← hW3]; exact below_sets HB2.out (Nat.le_refl _) _ _ _ _ _ _ _ _ _ _
  refine bodyPost_ret (results_tok rfl rfl hR3) rfl ⟨?_, hB3⟩
  exact tok_end2 (HTK.out.symm.trans (by simp only [Lib.trimSuffix, if_pos HSF.out]; rfl)) (by omega)


set_option maxRecDepth 100000 in
set_option maxHeartbeats 1000000 in
theorem comment_D4 (s : ByteArray) (n : Nat) (r : List UInt8) (hs : s.size ≤ 268435456) (hr : Ps s n r) (w : World) (hsh : Sh w) (hg : Lib.hasPrefix r [62] = false) (hdg : Lib.hasPrefix r [45, 62] = false) (hi : Lib.index r [45, 45, 62] = -1) (hj : Lib.index r [45, 45, 33, 62] = -1) (hddb : Lib.hasSuffix r [45, 45, 33] = false) (hdd : Lib.hasSuffix r [45, 45] = false) (hd : Lib.hasSuffix r [45] = false) :
    Calls Tryd.prog 15 #[.string s, .int .i64 n] w (TR w { kind := 4, text := (cm r).1 } (n + (cm r).2.1) (cm r).2.2) := by
  have hn := hr.le
  have hlen := hr.len
  obtain ⟨X, hX⟩ : ∃ X, s.extract n s.size = X := ⟨_, rfl⟩
  have hx : X.data.toList = r := by
    rw [← hX, Lib.extract_data, hr.eq]
    exact List.take_of_length_le (by omega)
  have hxl : X.size = r.length := by rw [← hx]; simp
  have hxs : X.size ≤ 268435456 := by omega
  have HS := Lib.hid hsh
  have HX := Lib.hid hx
  have KB : cmB r = 0 := by
    unfold cmB
    rw [if_neg (by rw [hddb]; decide)]; rw [if_neg (by rw [hdd]; decide)]; rw [if_neg (by rw [hd]; decide)]
  have KE : (cmE r).2 = 0 := by
    unfold cmE
    rw [hi, hj]
    rfl
  have KEY : cm r = (wh (r.take (r.length - 0)), r.length, false) := by
    unfold cm
    rw [if_neg (by rw [hg]; decide), if_neg (by rw [hdg]; decide), if_neg (by rw [KE]; omega), KB]
  rw [KEY]
  have Pg := Lib.hid (fun w => hasP_calls X ⟨#[62]⟩ false (by rw [hx]; exact hg) w)
  have Pdg := Lib.hid (fun w => hasP_calls X ⟨#[45, 62]⟩ false (by rw [hx]; exact hdg) w)
  have Ii := Lib.hid (fun w (hw : Sh w) => index_calls X ⟨#[45, 45, 62]⟩ hxs (-1) (by rw [hx]; exact hi) w hw)
  have Ij := Lib.hid (fun w (hw : Sh w) => index_calls X ⟨#[45, 45, 33, 62]⟩ hxs (-1) (by rw [hx]; exact hj) w hw)
  have Sddb := Lib.hid (fun w => cutS_calls X ⟨#[45, 45, 33]⟩ hxs false (⟨(Lib.trimSuffix r [45, 45, 33]).toArray⟩ : ByteArray) (by rw [hx]; exact hddb) (by rw [hx]) w)
  have Sdd := Lib.hid (fun w => cutS_calls X ⟨#[45, 45]⟩ hxs false (⟨(Lib.trimSuffix r [45, 45]).toArray⟩ : ByteArray) (by rw [hx]; exact hdd) (by rw [hx]) w)
  have Sd := Lib.hid (fun w => cutS_calls X ⟨#[45]⟩ hxs false (⟨(Lib.trimSuffix r [45]).toArray⟩ : ByteArray) (by rw [hx]; exact hd) (by rw [hx]) w)
  clear KE KEY KB hg hdg hi hj hddb hdd hd
  obtain ⟨TK, hTK⟩ : ∃ TK, wh (X : ByteArray).data.toList = TK := ⟨_, rfl⟩
  have TC : Hid (∀ (pp : Int) (w : World), Sh w → Calls Tryd.prog 27 #[.string X, .int .i64 pp, .bool false] w (TR w { kind := 4, text := TK } pp false)) := fun pp w h => by rw [← hTK]; exact told_calls X pp false (by omega) w h
  have HTK := Lib.hid hTK
  clear hTK
  have hb0 : Below w.heap.size w (w.alloc (.cells #[.int .u8 0, .string ⟨#[]⟩, .slice none 0 0, .bool false, .string ⟨#[]⟩, .string ⟨#[]⟩, .string ⟨#[]⟩, .bool false, .bool false, .bool false] 26)) := (Below.refl _ w).alloc (Nat.le_refl _) _
  have HB0 := Lib.hid hb0
  have HT0 := Lib.hid (Tb.new w)
  have HX0 := Lib.hid hX
  clear hb0 hx hr hsh hX
  have i10 : ∀ w : World, (Instr.index 44 (.agg #[.string ⟨#[62]⟩, .string ⟨#[45, 62]⟩]) (.int .i64 0)).run Tryd.prog w = .ok (.string ⟨#[62]⟩) w := fun _ => by kernel_rfl
  have i11 : ∀ w : World, (Instr.index 44 (.agg #[.string ⟨#[62]⟩, .string ⟨#[45, 62]⟩]) (.int .i64 1)).run Tryd.prog w = .ok (.string ⟨#[45, 62]⟩) w := fun _ => by kernel_rfl
  have i20 : ∀ w : World, (Instr.index 44 (.agg #[.string ⟨#[45, 45, 62]⟩, .string ⟨#[45, 45, 33, 62]⟩]) (.int .i64 0)).run Tryd.prog w = .ok (.string ⟨#[45, 45, 62]⟩) w := fun _ => by kernel_rfl
  have i21 : ∀ w : World, (Instr.index 44 (.agg #[.string ⟨#[45, 45, 62]⟩, .string ⟨#[45, 45, 33, 62]⟩]) (.int .i64 1)).run Tryd.prog w = .ok (.string ⟨#[45, 45, 33, 62]⟩) w := fun _ => by kernel_rfl
  have i30 : ∀ w : World, (Instr.index 46 (.agg #[.string ⟨#[45, 45, 33]⟩, .string ⟨#[45, 45]⟩, .string ⟨#[45]⟩]) (.int .i64 0)).run Tryd.prog w = .ok (.string ⟨#[45, 45, 33]⟩) w := fun _ => by kernel_rfl
  have i31 : ∀ w : World, (Instr.index 46 (.agg #[.string ⟨#[45, 45, 33]⟩, .string ⟨#[45, 45]⟩, .string ⟨#[45]⟩]) (.int .i64 1)).run Tryd.prog w = .ok (.string ⟨#[45, 45]⟩) w := fun _ => by kernel_rfl
  have i32 : ∀ w : World, (Instr.index 46 (.agg #[.string ⟨#[45, 45, 33]⟩, .string ⟨#[45, 45]⟩, .string ⟨#[45]⟩]) (.int .i64 2)).run Tryd.prog w = .ok (.string ⟨#[45]⟩) w := fun _ => by kernel_rfl
  go_enter Tryd.func15, Tryd.ntmps15
  go_wp2_with fail
  rw [HX0.out]
  generalize hW0 : World.alloc _ _ = W0 at *
  clear hW0
  go_wp2_with fail
  refine wp_loop_rounds 3 ?_
  rw [rounds_succ]
  go_wp2_with fail
  refine (Pg.out _).mono ?_
  rintro e w' ⟨rfl, rfl⟩
  go_wp2_with fail
  rw [rounds_succ]
  go_wp2_with fail
  refine (Pdg.out _).mono ?_
  rintro e w' ⟨rfl, rfl⟩
  go_wp2_with fail
  rw [rounds_succ]
  go_wp2_with fail
  refine wp_loop_rounds 3 ?_
  rw [rounds_succ]
  go_wp2_with fail
  refine (Ii.out _ (HS.out.below HB0.out)).mono ?_
  rintro e w' ⟨rfl, rfl⟩
  go_wp2_with fail
  rw [rounds_succ]
  go_wp2_with fail
  refine (Ij.out _ (HS.out.below HB0.out)).mono ?_
  rintro e w' ⟨rfl, rfl⟩
  go_wp2_with fail
  rw [rounds_succ]
  go_wp2_with fail
  refine wp_loop_rounds 4 ?_
  rw [rounds_succ]
  go_wp2_with fail
  refine (Sddb.out _).mono ?_
  rintro e w' ⟨rfl, rfl⟩
  go_wp2_with fail
  rw [rounds_succ]
  go_wp2_with fail
  refine (Sdd.out _).mono ?_
  rintro e w' ⟨rfl, rfl⟩
  go_wp2_with fail
  rw [rounds_succ]
  go_wp2_with fail
  refine (Sd.out _).mono ?_
  rintro e w' ⟨rfl, rfl⟩
  go_wp2_with fail
  rw [rounds_succ]
  go_wp2_with fail
  refine (TC.out _ _ (HS.out.below HB0.out)).mono ?_
  rintro e w2 ⟨rfl, hb2⟩
  have HB2 := Lib.hid (HB0.out.trans (hb2.mono HB0.out.size))
  have HT2 := Lib.hid (HT0.out.below hb2 HT0.out.lt)
  obtain ⟨c0, c1, c2, c3, c4, c5, c6, c7, c8, c9, fz⟩ := HT2.out.cs
  clear hb2 HB0 HT0 HS
  unfold tkCells
  go_wp2
  generalize hW3 : World.setCell _ _ _ = W3
  have hR3 : Tb w.heap.size { kind := 4, text := TK } W3 := by rw [← hW3]; exact set10 HT2.out _ _ _ _ _ _ _ _ _ _
  have hB3 : Below w.heap.size w W3 := by rw [← hW3]; exact below_sets HB2.out (Nat.le_refl _) _ _ _ _ _ _ _ _ _ _
  refine bodyPost_ret (results_tok rfl rfl hR3) rfl ⟨?_, hB3⟩
  exact tok_end2 (HTK.out.symm.trans (by rw [HX.out]; simp)) (by omega)

theorem comment_calls (s : ByteArray) (n : Nat) (r : List UInt8) (hs : s.size ≤ 268435456) (hr : Ps s n r) (w : World) (hsh : Sh w) :
    Calls Tryd.prog 15 #[.string s, .int .i64 n] w (TR w { kind := 4, text := (cm r).1 } (n + (cm r).2.1) (cm r).2.2) := by
  cases hg : Lib.hasPrefix r [62] with
  | true => exact comment_A s n r hs hr w hsh hg
  | false =>
    cases hdg : Lib.hasPrefix r [45, 62] with
    | true => exact comment_B s n r hs hr w hsh hg hdg
    | false =>
      have gi := Lib.index_ge r [45, 45, 62]
      have gj := Lib.index_ge r [45, 45, 33, 62]
      by_cases hi : Lib.index r [45, 45, 62] = -1
      · by_cases hj : Lib.index r [45, 45, 33, 62] = -1
        · cases h1 : Lib.hasSuffix r [45, 45, 33] with
          | true => exact comment_D1 s n r hs hr w hsh hg hdg hi hj h1
          | false =>
            cases h2 : Lib.hasSuffix r [45, 45] with
            | true => exact comment_D2 s n r hs hr w hsh hg hdg hi hj h1 h2
            | false =>
              cases h3 : Lib.hasSuffix r [45] with
              | true => exact comment_D3 s n r hs hr w hsh hg hdg hi hj h1 h2 h3
              | false => exact comment_D4 s n r hs hr w hsh hg hdg hi hj h1 h2 h3
        · obtain ⟨m, hm⟩ : ∃ m : Nat, Lib.index r [45, 45, 33, 62] = m := ⟨(Lib.index r [45, 45, 33, 62]).toNat, by omega⟩
          exact comment_C4 s n r hs hr w hsh hg hdg m hi hm
      · obtain ⟨k, hk⟩ : ∃ k : Nat, Lib.index r [45, 45, 62] = k := ⟨(Lib.index r [45, 45, 62]).toNat, by omega⟩
        by_cases hj : Lib.index r [45, 45, 33, 62] = -1
        · exact comment_C1 s n r hs hr w hsh hg hdg k hk hj
        · obtain ⟨m, hm⟩ : ∃ m : Nat, Lib.index r [45, 45, 33, 62] = m := ⟨(Lib.index r [45, 45, 33, 62]).toNat, by omega⟩
          by_cases hmk : m < k
          · exact comment_C3 s n r hs hr w hsh hg hdg k m hk hm hmk
          · exact comment_C2 s n r hs hr w hsh hg hdg k m hk hm (by omega)

end Go.Proofs.YtileclmmobkcaaaDoor
