/-
  The walk of lacunalaw01.TextChunks: it returns true. The condition: the tables and the library's shape stand; the slice reads.
-/
import Derived.Test.YteffnlelmcbgmaaDoorWrc
import Derived.Test.YteffnlelmcbgmaaDoorChm
set_option linter.unusedVariables false
namespace Go.Proofs.YteffnlelmcbgmaaDoor
open Go.RowKit Go.Shelf

theorem fdO_le (part b : List UInt8) (cr : Bool) : (fdO part b cr).1.length ≤ 4 * (part.length + b.length) := by
  have h1 := crF_le cr (pts ((part ++ b).take (waitsP (part ++ b))))
  have h2 := pts_le ((part ++ b).take (waitsP (part ++ b)))
  have h3 : ((part ++ b).take (waitsP (part ++ b))).length ≤ part.length + b.length := by simp; omega
  unfold fdO; omega

theorem rnsF_le (f : Nat) (l : List UInt8) : (rnsF f l).length ≤ l.length := by
  induction f generalizing l with
  | zero => simp [rnsF]
  | succ f ih =>
    unfold rnsF
    split
    · simp
    · rename_i h
      have := pc_range l h
      have := ih (l.drop (pc l).1)
      simp at this ⊢
      omega
theorem crO_le (c : Bool) (rs : List Int) : (crO c rs).length ≤ 4 * rs.length := by
  induction rs generalizing c with
  | nil => simp [crO]
  | cons r rs ih =>
    have h1 := ih (decide (r = 13))
    have h2 := enc_rune_le r
    simp only [crO, List.length_append, List.length_cons]
    split
    · simp; omega
    · split <;> simp <;> omega
theorem InvC.outlen {pre out part : List UInt8} {cr : Bool} (h : InvC pre out part cr) : out.length ≤ 4 * pre.length := by
  obtain ⟨X, rfl, rfl, _, _⟩ := h
  have h1 := crO_le false (rns X)
  have h2 := rnsF_le X.length X
  unfold rns at h1
  unfold rns
  simp; omega
theorem take_ext (b : ByteArray) (i j : Nat) (h : i ≤ j) : b.data.toList.take i ++ (b.extract i j).data.toList = b.data.toList.take j := by
  rw [Lib.extract_data]
  obtain ⟨d, rfl⟩ := Nat.exists_eq_add_of_le h
  rw [List.take_add, Nat.add_sub_cancel_left]
theorem feedB_calls (D : Nat) (part : List UInt8) (x : ByteArray) (cr : Bool) (w : World) (hs : part.length + x.size ≤ 268435456) (hT : Tabs w) (hD : w.heap[D]? = some (.cells #[.string ⟨part.toArray⟩, .bool cr] 33 (0, 0)))
    (hg1 : 0 < D) (hg2 : 1 < D) :
    Calls Tryd.prog 13 #[.pointer (some ⟨D, 0, none⟩), .string x] w fun e w' =>
      ∃ o : ByteArray, e = .returned (.string o) ∧ Hid (o.data.toList = (fdO part x.data.toList cr).1) ∧ o.size ≤ 4 * (part.length + x.size) ∧
      w'.heap[D]? = some (.cells #[.string ⟨(fdP part x.data.toList).toArray⟩, .bool (fdO part x.data.toList cr).2] 33 (0, 0)) ∧ Below D w w' := by
  have := feedL_calls D part x.data.toList cr w (by simpa using hs) hT hD hg1 hg2
  rw [Lib.mk_data] at this
  refine this.mono ?_
  rintro e w' ⟨rfl, h1, h2⟩
  have hl := fdO_le part x.data.toList cr
  rw [show x.data.toList.length = x.size by simp] at hl
  exact ⟨_, rfl, rfl, hl, h1, h2⟩

set_option maxRecDepth 100000 in
set_option maxHeartbeats 2000000 in
theorem chunks_walk (b : ByteArray) (ad : Option Addr) (len cap : Nat) (cut : Nat → Int) (blk off : Nat) (hlen : len ≤ 9223372036854775807) (had : 0 < len → ad = some ⟨blk, off, none⟩)
    (w : World) (hcell : ∀ j, j < len → w.cell? ⟨blk, off + j, none⟩ = some (.int .i64 (cut j)) ∧ -9223372036854775808 ≤ cut j ∧ cut j ≤ 9223372036854775807) (hblk : 0 < len → blk < w.heap.size) (hsh : Sh w) (hT : Tabs w) :
    Calls Tryd.prog 4 #[.string b, .slice ad len cap] w fun e w' => e = .returned (.bool true) ∧ Below w.heap.size w w' := by
  have HS := Lib.hid hsh
  have HT := Lib.hid hT
  clear hsh hT
  go_enter Tryd.func4, Tryd.ntmps4
  go_wp2_with fail
  refine (works_calls _ HS.out HT.out).mono ?_
  rintro e w1 ⟨rfl, hb1⟩
  by_cases hb : 16384 < b.size
  · have hb' : (16384 : Int) < b.size := by omega
    go_wp2
    go_ret
    exact ⟨rfl, hb1⟩
  have hb' : ¬ ((16384 : Int) < b.size) := by omega
  go_wp2_with fail
  refine (input_calls b (by omega) _ (HS.out.below hb1) (HT.out.below hb1)).mono ?_
  rintro e w2 ⟨rfl, hb2⟩
  have hb2' := hb1.trans (hb2.mono hb1.size)
  clear hb1 hb2
  go_wp2_with fail
  generalize hW0 : World.alloc _ _ = W0
  have hs2 := hb2'.size
  have hD0 : W0.heap[w2.heap.size]? = some (.cells #[.string ⟨([] : List UInt8).toArray⟩, .bool false] 33 (0, 0)) := by rw [← hW0]; exact heap_alloc_new w2 _
  have hb0 : Below w.heap.size w W0 := by rw [← hW0]; exact hb2'.alloc hs2 _
  have hgl := HT.out.lt
  generalize hDD : w2.heap.size = D at *
  have HWT : Hid ((⟨(inp b.data.toList).toArray⟩ : ByteArray).data.toList = inp b.data.toList) := rfl
  generalize (⟨(inp b.data.toList).toArray⟩ : ByteArray) = want at *
  clear hW0 hb2' hDD
  have HC := Lib.hid hcell
  clear hcell
  go_loopw [8] (fun v wr => ∃ k : Nat, k ≤ 2 ∧ v = .int .i64 k ∧ wr.heap[D]? = some (.cells #[.string ⟨([] : List UInt8).toArray⟩, .bool false] 33 (0, 0)) ∧ Below w.heap.size w wr) (fun v _ => 2 - (intOf v).toNat)
  case atStart => exact ⟨0, by omega, rfl, hD0, hb0⟩
  case round =>
    obtain ⟨rd, hrd, rfl, hDr, hbr⟩ := hrel
    clear hD0 hb0
    by_cases hlt : rd < 2
    · have hlt' : (rd : Int) < 2 := by omega
      go_wp2_with fail
      go_loopw [9, 10, 11] (fun v9 v10 v11 wr => ∃ (o : ByteArray) (at_ k : Nat) (part : List UInt8) (cr : Bool), v9 = .string o ∧ v10 = .int .i64 at_ ∧ v11 = .int .i64 k ∧ k ≤ len ∧ at_ ≤ b.size ∧ wr.heap[D]? = some (.cells #[.string ⟨part.toArray⟩, .bool cr] 33 (0, 0)) ∧ Below w.heap.size w wr ∧ Hid (InvC (b.data.toList.take at_) o.data.toList part cr)) (fun _ _ v11 _ => len - (intOf v11).toNat)
      case atStart => exact ⟨⟨#[]⟩, 0, 0, [], false, rfl, rfl, rfl, by omega, by omega, hDr, hbr, InvC.start⟩
      case round =>
        obtain ⟨o, at_, k, part, cr, rfl, rfl, rfl, hk, hat, hDk, hbk, hI⟩ := hrel
        clear hDr hbr
        have hpl := hI.out.len
        have hol := hI.out.outlen
        have hol2 : o.size ≤ 4 * b.size := by
          have h1 : (b.data.toList.take at_).length ≤ b.size := by simp; omega
          have h2 : o.data.toList.length = o.size := by simp
          omega
        by_cases hkl : k < len ∧ k < 200
        · obtain ⟨hk1, hk2⟩ := hkl
          have hk1' : (k : Int) < len := by omega
          have hk2' : (k : Int) < 200 := by omega
          obtain ⟨hcl, hcr⟩ := HC.out k hk1
          have hbl := hblk (by omega)
          obtain rfl := had (by omega)
          have hcw := (hbk.cell (p := ⟨blk, off + k, none⟩) hbl).trans hcl
          clear hcl
          generalize cut k = z at *
          by_cases hz : 0 ≤ z
          · obtain ⟨c, rfl⟩ : ∃ c : Nat, z = c := ⟨z.toNat, by omega⟩
            have htn : ((at_ : Int) + c).toNat = at_ + c := by omega
            by_cases hz1 : (c : Int) < (b.size : Int) - at_
            · have hlo : at_ ≤ at_ + c := by omega
              go_wp2_with fail
              refine (feedB_calls D part (b.extract at_ (at_ + c)) cr wr (by simp; omega) (HT.out.below hbk) hDk (by omega) (by omega)).mono ?_
              rintro e W2 ⟨o2, rfl, ho2, ho2l, hD2, hb2⟩
              have hos : o2.size ≤ 131072 := by
                have : (b.extract at_ (at_ + c)).size ≤ b.size := by simp; try omega
                omega
              clear ho2l
              have HN : Hid (InvC (b.data.toList.take (at_ + c)) (o ++ o2).data.toList (fdP part (b.extract at_ (at_ + c)).data.toList) (fdO part (b.extract at_ (at_ + c)).data.toList cr).2) := by
                unfold Hid
                have := InvC.feed hI.out (b.extract at_ (at_ + c)).data.toList
                rw [take_ext b at_ (at_ + c) (by omega)] at this
                rw [ba_app, ho2.out]
                exact this
              have hbW := hbk.trans (hb2.mono hs2)
              clear hb2 hI hDk hbk
              go_wp2
              exact ⟨⟨o ++ o2, (at_ + c), k + 1, _, _, rfl, rfl, by go_num, by omega, by omega, hD2, hbW, HN.out⟩, by simp [intOf]; omega⟩
            · clear htn
              go_wp2_with fail
              refine (feedB_calls D part (b.extract at_ b.size) cr wr (by simp; omega) (HT.out.below hbk) hDk (by omega) (by omega)).mono ?_
              rintro e W2 ⟨o2, rfl, ho2, ho2l, hD2, hb2⟩
              have hos : o2.size ≤ 131072 := by
                have : (b.extract at_ b.size).size ≤ b.size := by simp; try omega
                omega
              clear ho2l
              have HN : Hid (InvC (b.data.toList.take b.size) (o ++ o2).data.toList (fdP part (b.extract at_ b.size).data.toList) (fdO part (b.extract at_ b.size).data.toList cr).2) := by
                unfold Hid
                have := InvC.feed hI.out (b.extract at_ b.size).data.toList
                rw [take_ext b at_ b.size (by omega)] at this
                rw [ba_app, ho2.out]
                exact this
              have hbW := hbk.trans (hb2.mono hs2)
              clear hb2 hI hDk hbk
              go_wp2
              exact ⟨⟨o ++ o2, b.size, k + 1, _, _, rfl, rfl, by go_num, by omega, by omega, hD2, hbW, HN.out⟩, by simp [intOf]; omega⟩
          · have hz0 : z < 0 := by omega
            go_wp2_with fail
            refine (feedB_calls D part (b.extract at_ b.size) cr wr (by simp; omega) (HT.out.below hbk) hDk (by omega) (by omega)).mono ?_
            rintro e W2 ⟨o2, rfl, ho2, ho2l, hD2, hb2⟩
            have hos : o2.size ≤ 131072 := by
              have : (b.extract at_ b.size).size ≤ b.size := by simp; try omega
              omega
            clear ho2l
            have HN : Hid (InvC (b.data.toList.take b.size) (o ++ o2).data.toList (fdP part (b.extract at_ b.size).data.toList) (fdO part (b.extract at_ b.size).data.toList cr).2) := by
              unfold Hid
              have := InvC.feed hI.out (b.extract at_ b.size).data.toList
              rw [take_ext b at_ b.size (by omega)] at this
              rw [ba_app, ho2.out]
              exact this
            have hbW := hbk.trans (hb2.mono hs2)
            clear hb2 hI hDk hbk
            go_wp2
            exact ⟨⟨o ++ o2, b.size, k + 1, _, _, rfl, rfl, by go_num, by omega, by omega, hD2, hbW, HN.out⟩, by simp [intOf]; omega⟩
        · by_cases hk1 : k < len
          · have hk1' : (k : Int) < len := by omega
            have hk2' : ¬ ((k : Int) < 200) := by omega
            clear hkl
            go_wp2_with fail
            refine (feedB_calls D part (b.extract at_ b.size) cr wr (by simp; omega) (HT.out.below hbk) hDk (by omega) (by omega)).mono ?_
            rintro e W2 ⟨o2, rfl, ho2, ho2l, hD2, hb2⟩
            have hos : o2.size ≤ 131072 := by
              have : (b.extract at_ b.size).size ≤ b.size := by simp [ByteArray.size_extract]
              omega
            clear ho2l
            have HN : Hid (InvC b.data.toList (o ++ o2).data.toList (fdP part (b.extract at_ b.size).data.toList) (fdO part (b.extract at_ b.size).data.toList cr).2) := by
              unfold Hid
              have := InvC.feed hI.out (b.extract at_ b.size).data.toList
              rw [take_ext b at_ b.size (by omega)] at this
              rw [ba_app, ho2.out]
              rwa [show b.data.toList.take b.size = b.data.toList from List.take_of_length_le (by rw [show b.data.toList.length = b.size by simp]; exact Nat.le_refl _)] at this
            have hbW := hbk.trans (hb2.mono hs2)
            have hpl2 := HN.out.len
            clear hb2 hI hDk hbk hpl hol
            generalize fdP part (b.extract at_ b.size).data.toList = part2 at *
            generalize (fdO part (b.extract at_ b.size).data.toList cr).2 = cr2 at *
            have HCL : Hid (∀ w : World, Tabs w → w.heap[D]? = some (.cells #[.string ⟨part2.toArray⟩, .bool cr2] 33 (0, 0)) → Calls Tryd.prog 14 #[.pointer (some ⟨D, 0, none⟩)] w fun e w' =>
                ∃ c : ByteArray, e = .returned (.string c) ∧ c.size ≤ 12 ∧ Hid (((o ++ o2 ++ c).toList == want.toList) = true) ∧ w'.heap[D]? = some (.cells #[.string ⟨([] : List UInt8).toArray⟩, .bool false] 33 (0, 0)) ∧ Below D w w') := by
              intro w hT hD
              refine (close_calls D ⟨part2.toArray⟩ cr2 w (by rw [ba_len]; omega) hT hD).mono ?_
              rintro e w' ⟨rfl, h1, h2⟩
              refine ⟨_, rfl, ?_, ?_, h1, h2⟩
              · have := decd_le part2
                rw [ba_len]
                show (decd part2).length ≤ 12
                omega
              · unfold Hid
                have := HN.out.close
                rw [Lib.toList_data, Lib.toList_data, HWT.out, ba_app (o ++ o2)]
                show ((o ++ o2).data.toList ++ decd part2 == inp b.data.toList) = true
                rw [this]; simp
            go_wp2_with fail
            refine (HCL.out _ (HT.out.below hbW) hD2).mono ?_
            rintro e W3 ⟨c, rfl, hcs, hcw, hD3, hb3⟩
            have hbW3 := hbW.trans (hb3.mono hs2)
            clear hb3 hbW hD2 HCL HN
            have hcw' := hcw.out
            go_wp2
            exact ⟨⟨rd + 1, by omega, by go_num, hD3, hbW3⟩, by show 2 - ((rd : Int) + 1).toNat < 2 - (rd : Int).toNat; omega⟩
          · have hk1' : ¬ ((k : Int) < len) := by omega
            clear hkl hk1
            go_wp2_with fail
            refine (feedB_calls D part (b.extract at_ b.size) cr wr (by simp; omega) (HT.out.below hbk) hDk (by omega) (by omega)).mono ?_
            rintro e W2 ⟨o2, rfl, ho2, ho2l, hD2, hb2⟩
            have hos : o2.size ≤ 131072 := by
              have : (b.extract at_ b.size).size ≤ b.size := by simp [ByteArray.size_extract]
              omega
            clear ho2l
            have HN : Hid (InvC b.data.toList (o ++ o2).data.toList (fdP part (b.extract at_ b.size).data.toList) (fdO part (b.extract at_ b.size).data.toList cr).2) := by
              unfold Hid
              have := InvC.feed hI.out (b.extract at_ b.size).data.toList
              rw [take_ext b at_ b.size (by omega)] at this
              rw [ba_app, ho2.out]
              rwa [show b.data.toList.take b.size = b.data.toList from List.take_of_length_le (by rw [show b.data.toList.length = b.size by simp]; exact Nat.le_refl _)] at this
            have hbW := hbk.trans (hb2.mono hs2)
            have hpl2 := HN.out.len
            clear hb2 hI hDk hbk hpl hol
            generalize fdP part (b.extract at_ b.size).data.toList = part2 at *
            generalize (fdO part (b.extract at_ b.size).data.toList cr).2 = cr2 at *
            have HCL : Hid (∀ w : World, Tabs w → w.heap[D]? = some (.cells #[.string ⟨part2.toArray⟩, .bool cr2] 33 (0, 0)) → Calls Tryd.prog 14 #[.pointer (some ⟨D, 0, none⟩)] w fun e w' =>
                ∃ c : ByteArray, e = .returned (.string c) ∧ c.size ≤ 12 ∧ Hid (((o ++ o2 ++ c).toList == want.toList) = true) ∧ w'.heap[D]? = some (.cells #[.string ⟨([] : List UInt8).toArray⟩, .bool false] 33 (0, 0)) ∧ Below D w w') := by
              intro w hT hD
              refine (close_calls D ⟨part2.toArray⟩ cr2 w (by rw [ba_len]; omega) hT hD).mono ?_
              rintro e w' ⟨rfl, h1, h2⟩
              refine ⟨_, rfl, ?_, ?_, h1, h2⟩
              · have := decd_le part2
                rw [ba_len]
                show (decd part2).length ≤ 12
                omega
              · unfold Hid
                have := HN.out.close
                rw [Lib.toList_data, Lib.toList_data, HWT.out, ba_app (o ++ o2)]
                show ((o ++ o2).data.toList ++ decd part2 == inp b.data.toList) = true
                rw [this]; simp
            go_wp2_with fail
            refine (HCL.out _ (HT.out.below hbW) hD2).mono ?_
            rintro e W3 ⟨c, rfl, hcs, hcw, hD3, hb3⟩
            have hbW3 := hbW.trans (hb3.mono hs2)
            clear hb3 hbW hD2 HCL HN
            have hcw' := hcw.out
            go_wp2
            exact ⟨⟨rd + 1, by omega, by go_num, hD3, hbW3⟩, by show 2 - ((rd : Int) + 1).toNat < 2 - (rd : Int).toNat; omega⟩
    · have hlt' : ¬ ((rd : Int) < 2) := by omega
      go_wp2
      go_ret
      exact ⟨rfl, hbr⟩
end Go.Proofs.YteffnlelmcbgmaaDoor
