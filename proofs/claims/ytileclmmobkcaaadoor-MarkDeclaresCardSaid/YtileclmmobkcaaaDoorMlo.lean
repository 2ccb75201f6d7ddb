/-
  Contracts of text.Lower and of lacunaref01.Lower. The condition: the text takes at most 2 to the 40th bytes.
-/
import Derived.Test.YtileclmmobkcaaaDoorBas
import Derived.Laws.IdiomStrings
import Derived.LoopN
set_option linter.unusedVariables false
namespace Go.Proofs.YtileclmmobkcaaaDoor
open Go.RowKit Go.Shelf

/-- A byte's small letter. -/
def lowB (c : UInt8) : UInt8 := if 65 ≤ c.toNat ∧ c.toNat ≤ 90 then c + 32 else c
def lwr (l : List UInt8) : List UInt8 := l.map lowB
theorem lowB_no (c : UInt8) (h : ¬ (65 ≤ c.toNat ∧ c.toNat ≤ 90)) : lowB c = c := by unfold lowB; rw [if_neg h]
theorem lowB_yes (c : UInt8) (h0 : 65 ≤ c.toNat) (h1 : c.toNat ≤ 90) : ((lowB c).toNat : Int) = (c.toNat : Int) + 32 := by
  unfold lowB; rw [if_pos ⟨h0, h1⟩, UInt8.toNat_add]
  have : (32 : UInt8).toNat = 32 := rfl
  rw [this]; omega
theorem or8 (c : Nat) (h0 : 65 ≤ c) (h1 : c ≤ 90) : bits .or .u8 (c : Int) 32 = (c : Int) + 32 := by
  have key : ∀ k : Fin 26, bits .or .u8 ((65 + k.1 : Nat) : Int) 32 = ((65 + k.1 : Nat) : Int) + 32 := by decide
  have := key ⟨c - 65, by omega⟩
  rwa [show 65 + (c - 65) = c by omega] at this

/-- The cells of block b, from its beginning, are the bytes l, and may be written. -/
def Cl (b : Nat) (l : List UInt8) (w : World) : Prop := (∀ j, j < l.length → w.cell? ⟨b, j, none⟩ = some (.int .u8 (l.getD j 0).toNat)) ∧ (∀ j, j < l.length → w.frozen? ⟨b, j, none⟩ = false) ∧ b < w.heap.size
theorem Cl.set {b : Nat} {l : List UInt8} {w : World} (h : Cl b l w) (k : Nat) (hk : k < l.length) (c : UInt8) : Cl b (l.set k c) (w.setCell ⟨b, k, none⟩ (.int .u8 (c.toNat : Nat))) := by
  obtain ⟨h1, h2, h3⟩ := h
  refine ⟨fun j hj => ?_, fun j hj => ?_, by simpa [World.setCell] using h3⟩
  · rw [List.length_set] at hj
    by_cases e : k = j
    · subst e
      rw [World.cell?_setCell_same _ _ _ (h1 k hk)]
      simp [List.getD, hk]
    · rw [World.cell?_setCell_other _ _ _ _ (fun e2 => e (by cases e2; rfl)), h1 j hj]
      simp [List.getD, List.getElem?_set, e]
  · rw [List.length_set] at hj
    rw [← h2 j hj]
    unfold World.frozen? World.setCell
    simp only [Array.getElem?_modify]
    cases hh : w.heap[b]? with
    | none => simp
    | some o => cases o <;> simp
theorem Cl.new (w : World) (s : ByteArray) (cap : Nat) (e : TypeId) : Cl w.heap.size s.data.toList (w.drew.alloc (.cells (bytesRow s cap) e ((bytesRow s cap).size, (bytesRow s cap).size + 1))) := by
  have hsz : s.size ≤ (bytesRow s cap).size := by unfold bytesRow; simp
  refine ⟨fun j hj => ?_, fun j hj => ?_, by simp⟩
  · have := World.cell?_alloc_mark w.drew (bytesRow s cap) e ((bytesRow s cap).size, (bytesRow s cap).size + 1) j
    rw [show w.drew.heap.size = w.heap.size from rfl] at this
    rw [this, bytesRow_at s cap j (by simpa using hj)]
    simp [List.getD]
    rw [Array.getElem?_eq_getElem (by simpa using hj)]; rfl
  · have := World.frozen?_alloc_mark w.drew (bytesRow s cap) e (bytesRow s cap).size ((bytesRow s cap).size + 1) j
    rw [show w.drew.heap.size = w.heap.size from rfl] at this
    rw [this]
    have : j < s.size := by simpa using hj
    simp; omega
theorem lwr_mid (l : List UInt8) (k : Nat) (h : k < l.length) (c : UInt8) (hc : lowB (l.getD k 0) = c) : ((l.take k).map lowB ++ l.drop k).set k c = (l.take (k + 1)).map lowB ++ l.drop (k + 1) := by
  have hx : l.getD k 0 = l[k] := by simp [List.getD, h]
  rw [hx] at hc
  rw [List.take_succ_eq_append_getElem h, List.map_append, List.drop_eq_getElem_cons h]
  have hlen : ((l.take k).map lowB).length = k := by simp; omega
  rw [List.set_append_right _ _ (by omega), hlen, Nat.sub_self, List.set_cons_zero, List.append_assoc]
  simp only [List.map_cons, List.map_nil, List.cons_append, List.nil_append, hc]
theorem lwr_same (l : List UInt8) (k : Nat) (h : k < l.length) (hc : lowB (l.getD k 0) = l.getD k 0) : (l.take k).map lowB ++ l.drop k = (l.take (k + 1)).map lowB ++ l.drop (k + 1) := by
  have hx : l.getD k 0 = l[k] := by simp [List.getD, h]
  rw [hx] at hc
  rw [List.take_succ_eq_append_getElem h, List.map_append, List.drop_eq_getElem_cons h]
  simp [hc]
theorem lwr_getD (l : List UInt8) (k : Nat) (h : k < l.length) : ((l.take k).map lowB ++ l.drop k).getD k 0 = l.getD k 0 := by
  have hlen : ((l.take k).map lowB).length = k := by simp; omega
  unfold List.getD
  rw [List.getElem?_append_right (by omega), hlen, Nat.sub_self, List.getElem?_drop, Nat.add_zero]
theorem lwr_len (l : List UInt8) (k : Nat) (h : k ≤ l.length) : ((l.take k).map lowB ++ l.drop k).length = l.length := by simp; omega

set_option maxRecDepth 100000 in
theorem lower_calls (s : ByteArray) (hs : s.size ≤ 1099511627776) (w : World) :
    Calls Tryd.prog 16 #[.string s] w fun e w' => e = .returned (.string ⟨(lwr s.data.toList).toArray⟩) ∧ Below w.heap.size w w' := by
  have hconv : ∀ w, (convert 9 49 (.string s)).run Tryd.prog w = .ok (.slice (some ⟨w.heap.size, 0, none⟩) s.size (grownCap w s.size 0 5))
      (w.drew.alloc (.cells (bytesRow s (grownCap w s.size 0 5)) 5 ((bytesRow s (grownCap w s.size 0 5)).size, (bytesRow s (grownCap w s.size 0 5)).size + 1))) :=
    fun w => run_bytes_of_string w _ _ 5 s Tryd.underlying9 Tryd.underlying49 Tryd.underlying5
  have hsl : s.data.toList.length = s.size := by simp
  go_enter Tryd.func16, Tryd.ntmps16
  go_wp2
  clear hconv
  generalize grownCap w s.size 0 5 = cap at *
  have h0 : Cl w.heap.size s.data.toList (World.drew (w.alloc (.cells (bytesRow s cap) 5 ((bytesRow s cap).size, (bytesRow s cap).size + 1)))) := Cl.new w s cap 5
  have hb0 : Below w.heap.size w (World.drew (w.alloc (.cells (bytesRow s cap) 5 ((bytesRow s cap).size, (bytesRow s cap).size + 1)))) := ((Below.refl _ w).alloc (Nat.le_refl _) _).drew
  generalize hW : World.drew _ = W at *
  clear hW
  go_loopw [10] (fun i wr => ∃ k : Nat, k ≤ s.size ∧ i = .int .i64 k ∧ Cl w.heap.size ((s.data.toList.take k).map lowB ++ s.data.toList.drop k) wr ∧ Below w.heap.size w wr) (fun i _ => s.size - (intOf i).toNat)
  case atStart => exact ⟨0, by omega, rfl, by simpa using h0, hb0⟩
  case round =>
    obtain ⟨k, hk, rfl, hC, hb⟩ := hrel
    clear h0 hb0
    by_cases hlt : k < s.size
    · have hkl : k < s.data.toList.length := by omega
      have c0 := hC.1 k (by rw [lwr_len _ _ (by omega)]; omega)
      have f0 := hC.2.1 k (by rw [lwr_len _ _ (by omega)]; omega)
      rw [lwr_getD _ _ hkl] at c0
      have hS := fun c => hC.set k (by rw [lwr_len _ _ (by omega)]; omega) c
      generalize hc : s.data.toList.getD k 0 = c at *
      have HLT := Lib.hid hc
      have hc0 := c.toNat_lt
      by_cases h65 : 65 ≤ c.toNat ∧ c.toNat ≤ 90
      · obtain ⟨h65, h90⟩ := h65
        have hor := or8 c.toNat h65 h90
        have h65' : (65 : Int) ≤ (c.toNat : Int) := by omega
        have h90' : (c.toNat : Int) ≤ 90 := by omega
        have HY := Lib.hid (lowB_yes c h65 h90)
        have HS := Lib.hid (hS (lowB c))
        rw [HY.out] at HS
        have HM := Lib.hid (lwr_mid s.data.toList k hkl (lowB c) (by rw [HLT.out]))
        have HB := Lib.hid hb
        clear hS hc hC hb
        go_wp2
        refine ⟨⟨k + 1, by omega, by go_num, by rw [← HM.out]; exact HS.out, HB.out.setCell (p := ⟨w.heap.size, k, none⟩) (by simp) _⟩, by simp [intOf]; omega⟩
      · have HM := Lib.hid (lwr_same s.data.toList k hkl (by rw [HLT.out]; exact lowB_no c h65))
        have HC := Lib.hid hC
        have HB := Lib.hid hb
        clear hS hc hC hb
        by_cases h65' : (65 : Int) ≤ (c.toNat : Int)
        · have h90 : ¬ ((c.toNat : Int) ≤ 90) := by omega
          clear h65
          go_wp2
          exact ⟨⟨k + 1, by omega, by go_num, by rw [← HM.out]; exact HC.out, HB.out⟩, by simp [intOf]; omega⟩
        · clear h65
          go_wp2
          exact ⟨⟨k + 1, by omega, by go_num, by rw [← HM.out]; exact HC.out, HB.out⟩, by simp [intOf]; omega⟩
    · have : k = s.size := by omega
      subst this
      have hcc := run_convert_bytes_back (P := Tryd.prog) wr 49 9 5 ⟨w.heap.size, 0, none⟩ cap ((s.data.toList.take s.size).map lowB ++ s.data.toList.drop s.size) Tryd.underlying49 Tryd.underlying5 Tryd.underlying9 (by
        intro j hj
        have := hC.1 j hj
        rw [show (⟨w.heap.size, 0, none⟩ : Addr).add j = ⟨w.heap.size, j, none⟩ by unfold Addr.add; split <;> simp_all, this]
        unfold List.getD
        rw [List.getElem?_eq_getElem hj]; rfl)
      rw [lwr_len _ _ (by omega), hsl] at hcc
      have HL : Hid ((s.data.toList.take s.size).map lowB ++ s.data.toList.drop s.size = lwr s.data.toList) := by
        unfold Hid; rw [List.drop_of_length_le (by omega), List.take_of_length_le (by omega), List.append_nil]; rfl
      rw [HL.out] at hcc
      go_wp2
      go_ret
      exact ⟨rfl, hb⟩
set_option maxRecDepth 100000 in
theorem refLower_calls (s : ByteArray) (hs : s.size ≤ 1099511627776) (w : World) :
    Calls Tryd.prog 42 #[.string s] w fun e w' => e = .returned (.string ⟨(lwr s.data.toList).toArray⟩) ∧ Below w.heap.size w w' := by
  have hconv : ∀ w, (convert 9 49 (.string s)).run Tryd.prog w = .ok (.slice (some ⟨w.heap.size, 0, none⟩) s.size (grownCap w s.size 0 5))
      (w.drew.alloc (.cells (bytesRow s (grownCap w s.size 0 5)) 5 ((bytesRow s (grownCap w s.size 0 5)).size, (bytesRow s (grownCap w s.size 0 5)).size + 1))) :=
    fun w => run_bytes_of_string w _ _ 5 s Tryd.underlying9 Tryd.underlying49 Tryd.underlying5
  have hsl : s.data.toList.length = s.size := by simp
  go_enter Tryd.func42, Tryd.ntmps42
  go_wp2
  clear hconv
  generalize grownCap w s.size 0 5 = cap at *
  have h0 : Cl w.heap.size s.data.toList (World.drew (w.alloc (.cells (bytesRow s cap) 5 ((bytesRow s cap).size, (bytesRow s cap).size + 1)))) := Cl.new w s cap 5
  have hb0 : Below w.heap.size w (World.drew (w.alloc (.cells (bytesRow s cap) 5 ((bytesRow s cap).size, (bytesRow s cap).size + 1)))) := ((Below.refl _ w).alloc (Nat.le_refl _) _).drew
  generalize hW : World.drew _ = W at *
  clear hW
  go_loopw [4] (fun i wr => ∃ k : Nat, k ≤ s.size ∧ i = .int .i64 k ∧ Cl w.heap.size ((s.data.toList.take k).map lowB ++ s.data.toList.drop k) wr ∧ Below w.heap.size w wr) (fun i _ => s.size - (intOf i).toNat)
  case atStart => exact ⟨0, by omega, rfl, by simpa using h0, hb0⟩
  case round =>
    obtain ⟨k, hk, rfl, hC, hb⟩ := hrel
    clear h0 hb0
    by_cases hlt : k < s.size
    · have hkl : k < s.data.toList.length := by omega
      have c0 := hC.1 k (by rw [lwr_len _ _ (by omega)]; omega)
      have f0 := hC.2.1 k (by rw [lwr_len _ _ (by omega)]; omega)
      rw [lwr_getD _ _ hkl] at c0
      have hS := fun c => hC.set k (by rw [lwr_len _ _ (by omega)]; omega) c
      generalize hc : s.data.toList.getD k 0 = c at *
      have HLT := Lib.hid hc
      have hc0 := c.toNat_lt
      by_cases h65 : 65 ≤ c.toNat ∧ c.toNat ≤ 90
      · obtain ⟨h65, h90⟩ := h65
        have h65' : (65 : Int) ≤ (c.toNat : Int) := by omega
        have h90' : (c.toNat : Int) ≤ 90 := by omega
        have HY := Lib.hid (lowB_yes c h65 h90)
        have HS := Lib.hid (hS (lowB c))
        rw [HY.out] at HS
        have HM := Lib.hid (lwr_mid s.data.toList k hkl (lowB c) (by rw [HLT.out]))
        have HB := Lib.hid hb
        clear hS hc hC hb
        go_wp2
        refine ⟨⟨k + 1, by omega, by go_num, by rw [← HM.out]; exact HS.out, HB.out.setCell (p := ⟨w.heap.size, k, none⟩) (by simp) _⟩, by simp [intOf]; omega⟩
      · have HM := Lib.hid (lwr_same s.data.toList k hkl (by rw [HLT.out]; exact lowB_no c h65))
        have HC := Lib.hid hC
        have HB := Lib.hid hb
        clear hS hc hC hb
        by_cases h65' : (65 : Int) ≤ (c.toNat : Int)
        · have h90 : ¬ ((c.toNat : Int) ≤ 90) := by omega
          clear h65
          go_wp2
          exact ⟨⟨k + 1, by omega, by go_num, by rw [← HM.out]; exact HC.out, HB.out⟩, by simp [intOf]; omega⟩
        · clear h65
          go_wp2
          exact ⟨⟨k + 1, by omega, by go_num, by rw [← HM.out]; exact HC.out, HB.out⟩, by simp [intOf]; omega⟩
    · have : k = s.size := by omega
      subst this
      have hcc := run_convert_bytes_back (P := Tryd.prog) wr 49 9 5 ⟨w.heap.size, 0, none⟩ cap ((s.data.toList.take s.size).map lowB ++ s.data.toList.drop s.size) Tryd.underlying49 Tryd.underlying5 Tryd.underlying9 (by
        intro j hj
        have := hC.1 j hj
        rw [show (⟨w.heap.size, 0, none⟩ : Addr).add j = ⟨w.heap.size, j, none⟩ by unfold Addr.add; split <;> simp_all, this]
        unfold List.getD
        rw [List.getElem?_eq_getElem hj]; rfl)
      rw [lwr_len _ _ (by omega), hsl] at hcc
      have HL : Hid ((s.data.toList.take s.size).map lowB ++ s.data.toList.drop s.size = lwr s.data.toList) := by
        unfold Hid; rw [List.drop_of_length_le (by omega), List.take_of_length_le (by omega), List.append_nil]; rfl
      rw [HL.out] at hcc
      go_wp2
      go_ret
      exact ⟨rfl, hb⟩
end Go.Proofs.YtileclmmobkcaaaDoor
