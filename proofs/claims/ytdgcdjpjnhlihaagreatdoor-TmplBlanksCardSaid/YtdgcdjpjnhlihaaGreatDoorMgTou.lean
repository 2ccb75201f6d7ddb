/-
  A []uint8 that came in, opened: its bytes in memory. No condition.
-/
/-
  The walk of lacunalaw19.TmplBlanks. The condition: the listed variables read as they were laid; MaxLen holds some number; lists and texts of at most 2 to the 47th bytes.
-/
import Derived.Test.YtdgcdjpjnhlihaaGreatDoorMgTzb
import Derived.Test.YtdgcdjpjnhlihaaGreatDoorMgTb0
import Derived.Deep.DeepCutAuto
set_option linter.unusedVariables false
namespace Go.Proofs.YtdgcdjpjnhlihaaGreatDoor
open Go.RowKit Go.Shelf Go.ChangeShapes Go.WideShapes Go.Joins

/-- A []uint8, in blocks that were there. -/
def U8s (w : World) (v : Value) (l : By) : Prop :=
  ∃ (a : Option Addr) (c : Nat), v = .slice a l.length c ∧ l.length ≤ c ∧ c ≤ maxLen ∧ (l ≠ [] → ∃ b o, a = some ⟨b, o, none⟩ ∧ b < w.heap.size ∧ ∀ i x, l[i]? = some x → w.cell? ⟨b, o + i, none⟩ = some (.int .u8 ((x.toNat : Nat) : Int)))
section
variable {H : Type} {enc : TypeId × Value → H} {W : World} {sp : Nat → Bool} {held : Bool}
theorem cu8 : Tryz.prog.cellsOf 5 = 1 := by kernel_rfl
theorem open_u8s {fuel : Nat} {v : Value} {y : DataW H × List MemPlace} (h : DataW.trod enc Tryz.prog W 0 sp held fuel 42 [v] = some y) :
    ∃ l : By, U8s W v l := by
  rcases DataW.trod_slice Tryz.underlying42 h with ⟨hv, -⟩ | ⟨a, len, cap, elems, rest, n, -, hv, rfl, -, hl, hm, hlen, hel, -, -⟩
  · simp at hv; subst hv
    exact ⟨[], none, 0, rfl, Nat.le_refl _, Nat.zero_le _, fun e => absurd rfl e⟩
  · simp at hv; subst hv
    have key : ∀ i, i < len → ∃ x : UInt8, W.cell? ((a.add (i * 1)).add 0) = some (.int .u8 ((x.toNat : Nat) : Int)) := by
      intro i hi
      have h1 := hel i hi
      obtain ⟨e, he⟩ : ∃ e, elems[i]? = some e := ⟨_, List.getElem?_eq_getElem (by omega)⟩
      rw [he, cu8] at h1
      obtain ⟨cs, hc, ht⟩ := bind_get h1
      obtain ⟨x, rfl, -, hs⟩ := DataW.trod_int Tryz.underlying5 ht
      obtain ⟨-, -, hat⟩ := World.cells?_some hc
      obtain ⟨a1, a2⟩ := bd_u8 hs
      have hq := hat 0 (by omega)
      refine ⟨UInt8.ofNat x.toNat, ?_⟩
      rw [hq]
      show some (Value.int .u8 x) = some (.int .u8 _)
      congr 2
      simp
      omega
    obtain ⟨l, hl1, hl2⟩ := list_of _ len key
    refine ⟨l, some a, cap, by rw [hl1], by omega, hm, fun hne => ?_⟩
    have h0 : 0 < len := by
      cases l with
      | nil => exact absurd rfl hne
      | cons x l => simp at hl1; omega
    obtain ⟨s0, hs0⟩ := key 0 h0
    have hsp : a.spot = none := by have := World.cell?_spot hs0; simpa [Addr.add] using this
    obtain ⟨b, o, sp'⟩ := a
    dsimp only at hsp
    subst hsp
    refine ⟨b, o, rfl, ?_, fun i s hi => ?_⟩
    · have := lt_of_cell hs0
      rw [add_at] at this; exact this
    · have := hl2 i s hi
      rw [add_at] at this
      rwa [show o + i * 1 + 0 = o + i by omega] at this
end
end Go.Proofs.YtdgcdjpjnhlihaaGreatDoor
set_option linter.unusedVariables false
set_option linter.unusedSimpArgs false
namespace Go.Proofs.YtdgcdjpjnhlihaaGreatDoor
open Go.RowKit Go.Shelf
attribute [local go_sem ↓] Go.wp_at_zero Go.wp_at_succ

set_option maxRecDepth 100000 in
set_option maxHeartbeats 40000000 in
theorem tmplBlanks_walk (t : Tm) (vm vd : Value) (vw : Value) (ways : By) (w : World) (hi : TmIn t vm vd w) (hu : U8s w vw ways) (hg : Gd w) (he : Eg w) : Calls Tryz.prog 6 #[.agg #[vm, vd], vw] w fun e w' => e = .returned (.bool true) ∧ Below w.heap.size w w' := by
  have HB0 : Hid (Below w.heap.size w (w.alloc (.cells #[vm, vd] 25))) := (Below.refl w.heap.size w).alloc (Nat.le_refl _) _
  have HT0 : Hid ((w.alloc (.cells #[vm, vd] 25)).heap[w.heap.size]? = some (.cells #[vm, vd] 25 (0, 0))) := heap_alloc_new w _
  have HS0 : Hid ((w.alloc (.cells #[vm, vd] 25)).heap.size = w.heap.size + 1) := by unfold Hid; simp
  have WK : Hid (∀ W, Below w.heap.size w W → Calls Tryz.prog 8 #[] W fun e w' => e = .returned (.bool true) ∧ Below W.heap.size W w') := fun W hW => works_calls W (hg.below hW) (he.below hW)
  have WG : Hid (∀ W, Below w.heap.size w W → Calls Tryz.prog 9 #[.agg #[vm, vd], .int .i64 16384] W (WgTP 16384 t W)) := fun W hW => weighTemplate_calls t 16384 (Nat.le_refl _) hi.wide _ vm vd W (hi.mainAt hW) (hi.defsAt hW)
  have PR : Hid (TmZ t → ∀ W, Below w.heap.size w W → Calls Tryz.prog 12 #[.agg #[vm, vd]] W (PrintR t W)) := fun hz W hW => print_calls t hz vm vd W (hg.below hW) (hi.mainAt hW) (hi.defsAt hW)
  have HI := Lib.hid hi
  have HG := Lib.hid hg
  have HWD := Lib.hid hi.wide
  obtain ⟨am, cm, rfl, -⟩ := hi.main
  obtain ⟨a, c, rfl, -⟩ := hi.defs
  obtain ⟨aw, cw, rfl, hw1, hw2, hw3⟩ := hu
  have hcw64 : cw ≤ 9223372036854775807 := by unfold maxLen at hw2; exact hw2
  have HWS := Lib.hid hw3
  clear hi hg he hw2 hw3
  go_enter Tryz.func6, Tryz.ntmps6
  go_wp2_with fail
  generalize hWW : World.alloc w _ = w0 at *
  clear hWW
  have HTC : Hid (∀ W, Below (w.heap.size + 1) w0 W → W.cell? ⟨w.heap.size, 0, none⟩ = some (.slice am t.main.len cm) ∧ W.cell? ⟨w.heap.size, 1, none⟩ = some (.slice a t.defs.length c) ∧ Below w.heap.size w W ∧ w.heap.size + 1 ≤ W.heap.size) := fun W hW =>
    ⟨by rw [cell_of_heap' ((hW.block _ (by omega)).trans HT0.out)]; rfl, by rw [cell_of_heap' ((hW.block _ (by omega)).trans HT0.out)]; rfl, HB0.out.trans (hW.mono (by omega)), by have := hW.size; rw [HS0.out] at this; exact this⟩
  refine (WK.out _ HB0.out).mono ?_
  rintro e w1 ⟨rfl, hb1⟩
  have HW1 : Hid (Below (w.heap.size + 1) w0 w1) := hb1.mono (by rw [HS0.out]; exact Nat.le_refl _)
  clear hb1
  obtain ⟨t0, t1, hb1, hs1⟩ := HTC.out _ HW1.out
  have HB1 := Lib.hid hb1
  clear hb1
  go_wp2_with fail
  refine (WG.out _ HB1.out).mono ?_
  rintro e w2 ⟨m, rfl, hm, hb2⟩
  have HW2 : Hid (Below (w.heap.size + 1) w0 w2) := HW1.out.trans (hb2.mono hs1)
  have HM := Lib.hid hm
  clear hb2 hm t0 t1
  obtain ⟨t0, t1, hb2, hs2⟩ := HTC.out _ HW2.out
  have HB2 := Lib.hid hb2
  clear hb2
  by_cases hbig : 16384 < m
  · have hbig' : (16384 : Int) < (m : Int) := by omega
    clear hbig
    go_wp2_with fail
    go_ret
    exact ⟨rfl, HB2.out⟩
  have hbig' : ¬ (16384 : Int) < (m : Int) := by omega
  have HZ : Hid (TmZ t) := tmZ_of t HWD.out (by have := HM.out (by omega); omega)
  clear hbig
  by_cases hwl : 16384 < ways.length
  · have hwl' : (16384 : Int) < (ways.length : Int) := by omega
    clear hwl
    go_wp2_with fail
    go_ret
    exact ⟨rfl, HB2.out⟩
  have hwl' : ¬ (16384 : Int) < (ways.length : Int) := by omega
  go_wp2_with fail
  refine (PR.out HZ.out _ HB2.out).mono ?_
  rintro e w3 ⟨rfl, hb3⟩
  have HW3 : Hid (Below (w.heap.size + 1) w0 w3) := HW2.out.trans (hb3.mono hs2)
  clear hb3 t0 t1
  obtain ⟨t0, t1, hb3, hs3⟩ := HTC.out _ HW3.out
  have HB3 := Lib.hid hb3
  clear hb3
  obtain ⟨n, hn⟩ : ∃ n, t.check = n := ⟨_, rfl⟩
  have HPS : Hid (printS t = if n = 0 then mkB t.src else ⟨#[]⟩) := by unfold Hid; rw [← hn]; rfl
  have HN := Lib.hid hn
  rw [HN.out]
  clear hn
  by_cases h0 : n = 0
  · subst h0
    have HPS2 : Hid (printS t = mkB t.src) := by unfold Hid; rw [HPS.out, if_pos rfl]
    rw [HPS2.out]
    obtain ⟨s, hs⟩ : ∃ s, mkB t.src = s := ⟨_, rfl⟩
    have HSS : Hid (bl s = t.src) := by unfold Hid; rw [← hs, bl_mkB]
    have hsz : s.size ≤ 16384 := by have := check_len t HN.out; rw [← HSS.out] at this; exact this
    obtain ⟨R, hR⟩ : ∃ R, blankF (bl s) ways s.size 0 false 0 [] = R := ⟨_, rfl⟩
    have HR := Lib.hid hR
    rw [hs]
    clear hs hR t0 t1
    go_wp2_with fail
    go_loopw [8, 9, 10, 11] (fun v8 v9 v10 v11 wr => ∃ (out : ByteArray) (inn : Bool) (k i f : Nat), v8 = .string out ∧ v9 = .bool inn ∧ v10 = .int .i64 (k : Nat) ∧ v11 = .int .i64 (i : Nat) ∧ i ≤ s.size ∧ k ≤ i ∧ out.size ≤ 3 * i ∧ s.size ≤ i + f ∧ Hid (blankF (bl s) ways f i inn k (bl out) = R) ∧ Hid (Below (w.heap.size + 1) w0 wr)) (fun _ _ _ i _ => s.size - (intOf i).toNat)
    case atStart => exact ⟨⟨#[]⟩, false, 0, 0, s.size, rfl, rfl, rfl, rfl, Nat.zero_le _, Nat.le_refl _, Nat.le_refl _, by omega, HR, HW3⟩
    case round =>
      obtain ⟨out, inn, k, i, f, rfl, rfl, rfl, rfl, hi1, hki, hos, hf, HBF, HB⟩ := hrel
      by_cases hlt : i < s.size
      · have hlt' : (i : Int) < (s.size : Int) := by omega
        obtain ⟨f, rfl⟩ : ∃ g, f = g + 1 := ⟨f - 1, by omega⟩
        go_upto_if 48 with (fail)
        go_cut [12] (fun v12 wx => v12 = .string (twoOf s i) ∧ wx = wr)
        case first =>
          by_cases h2 : i + 2 ≤ s.size
          · have h2' : (i : Int) + 2 ≤ (s.size : Int) := by omega
            have HT2 : Hid (twoOf s i = s.extract i (i + 2)) := if_pos h2
            clear h2
            go_wp2_with fail
            go_meet
            case rel => exact ⟨by rw [HT2.out], rfl⟩
          · have h2' : ¬ (i : Int) + 2 ≤ (s.size : Int) := by omega
            have HT2 : Hid (twoOf s i = ⟨#[]⟩) := if_neg h2
            clear h2
            go_wp2_with fail
            go_meet
            case rel => exact ⟨by rw [HT2.out], rfl⟩
        case rest =>
          obtain ⟨rfl, rfl⟩ := hcut
          go_upto_if 57 with (fail)
          go_cut [13] (fun v13 wx => v13 = .string (mkB (gapB ways k)) ∧ Below wc.heap.size wc wx)
          case first =>
            by_cases hk : k < ways.length
            · have hk' : (k : Int) < (ways.length : Int) := by omega
              have hk0 : (0 : Int) ≤ (k : Int) := by omega
              obtain ⟨x, hkx⟩ : ∃ x, ways[k]? = some x := ⟨_, List.getElem?_eq_getElem hk⟩
              obtain ⟨b, o, rfl, hb, hcell⟩ := HWS.out (by intro e; rw [e] at hk; simp at hk)
              have hxc : wc.cell? ⟨b, o + k, none⟩ = some (.int .u8 ((x.toNat : Nat) : Int)) := ((HB0.out.trans (HB.out.mono (by omega))).cell (p := ⟨b, _, none⟩) hb).trans (hcell k x hkx)
              have hxd : ways.getD k 0 = x := by rw [List.getD_eq_getElem?_getD, hkx]; rfl
              have hx0 : (0 : Int) ≤ (x.toNat : Int) := by omega
              have hx255 : (x.toNat : Int) ≤ 255 := by have := x.toNat_lt; omega
              have hbl : b < wc.heap.size := by have := (HB0.out.trans (HB.out.mono (by omega))).size; omega
              clear hcell
              rcases (show x.toNat % 4 = 0 ∨ x.toNat % 4 = 1 ∨ x.toNat % 4 = 2 ∨ x.toNat % 4 = 3 by omega) with hm4 | hm4 | hm4 | hm4
              · have hr : (x.toNat : Int) % 4 = 0 := by omega
                have hg : gapB ways k = [32] := by unfold gapB; rw [if_pos hk]; rw [hxd]; simp [hm4]
                have HGP := Lib.hid hg
                clear hg hm4 hxd hk hkx
                go_wp2_with fail
                go_meet
                case rel => exact ⟨by rw [HGP.out]; rfl, (Below.refl _ wc).alloc (Nat.le_refl _) _⟩
              · have hr : (x.toNat : Int) % 4 = 1 := by omega
                have hg : gapB ways k = [10] := by unfold gapB; rw [if_pos hk]; rw [hxd]; simp [hm4]
                have HGP := Lib.hid hg
                clear hg hm4 hxd hk hkx
                go_wp2_with fail
                go_meet
                case rel => exact ⟨by rw [HGP.out]; rfl, (Below.refl _ wc).alloc (Nat.le_refl _) _⟩
              · have hr : (x.toNat : Int) % 4 = 2 := by omega
                have hg : gapB ways k = [9, 32] := by unfold gapB; rw [if_pos hk]; rw [hxd]; simp [hm4]
                have HGP := Lib.hid hg
                clear hg hm4 hxd hk hkx
                go_wp2_with fail
                go_meet
                case rel => exact ⟨by rw [HGP.out]; rfl, (Below.refl _ wc).alloc (Nat.le_refl _) _⟩
              · have hr : (x.toNat : Int) % 4 = 3 := by omega
                have hg : gapB ways k = [] := by unfold gapB; rw [if_pos hk]; rw [hxd]; simp [hm4]
                have HGP := Lib.hid hg
                clear hg hm4 hxd hk hkx
                go_wp2_with fail
                go_meet
                case rel => exact ⟨by rw [HGP.out]; rfl, (Below.refl _ wc).alloc (Nat.le_refl _) _⟩
            · have hk' : ¬ (k : Int) < (ways.length : Int) := by omega
              have hg : gapB ways k = [] := by unfold gapB; rw [if_neg hk]
              have HGP := Lib.hid hg
              clear hg hk
              go_wp2_with fail
              go_meet
              case rel => exact ⟨by rw [HGP.out]; rfl, Below.refl _ _⟩
          case rest =>
            obtain ⟨rfl, hbc⟩ := hcut
            have HBC : Hid (Below (w.heap.size + 1) w0 wc) := HB.out.trans (hbc.mono (by have := HB.out.size; rw [HS0.out] at this; exact this))
            clear hbc HB
            go_upto_region 21 with (fail)
            go_cut [14] (fun v14 wx => v14 = .bool (isCom (bl s) i) ∧ wx = wc)
            case first =>
              by_cases h4 : i + 4 ≤ s.size
              · have h4' : (i : Int) + 4 ≤ (s.size : Int) := by omega
                have hE4 : (s.extract i (i + 4)).toList = ((bl s).drop i).take 4 := by rw [ByteArray.toList_eq]; show bl _ = _; rw [extract_bl _ _ _ h4, show i + 4 - i = 4 by omega]
                by_cases hc1 : ((bl s).drop i).take 4 = [123, 123, 47, 42]
                · have hq1 : ((s.extract i (i + 4)).toList == [123, 123, 47, 42]) = true := by rw [hE4, hc1]; rfl
                  have HC : Hid (isCom (bl s) i = true) := by unfold Hid isCom; rw [hc1]; simp
                  clear h4 hc1 hE4
                  go_wp2_with fail
                  go_meet
                  case rel => exact ⟨by rw [HC.out], rfl⟩
                · have hq1 : ((s.extract i (i + 4)).toList == [123, 123, 47, 42]) = false := by rw [hE4]; exact beq_eq_false_iff_ne.2 hc1
                  have hD1 : decide (((bl s).drop i).take 4 = [123, 123, 47, 42]) = false := decide_eq_false hc1
                  have HD1 := Lib.hid hD1
                  clear h4 hc1 hE4 hD1
                  by_cases hge : 2 ≤ i
                  · have hge' : (2 : Int) ≤ (i : Int) := by omega
                    have hi2 : (i : Int) - 2 = ((i - 2 : Nat) : Int) := by omega
                    have hi3 : ((i - 2 : Nat) : Int) ≤ (i : Int) := by omega
                    have hE2 : (s.extract (i - 2) i).toList = ((bl s).drop (i - 2)).take 2 := by rw [ByteArray.toList_eq]; show bl _ = _; rw [extract_bl _ _ _ (by omega), show i - (i - 2) = 2 by omega]
                    by_cases hc2 : ((bl s).drop (i - 2)).take 2 = [42, 47]
                    · have hq2 : ((s.extract (i - 2) i).toList == [42, 47]) = true := by rw [hE2, hc2]; rfl
                      have HC : Hid (isCom (bl s) i = true) := by unfold Hid isCom; rw [hc2]; simp [hge]
                      clear hge hc2 hE2
                      go_wp2_with fail
                      go_meet
                      case rel => exact ⟨by rw [HC.out], rfl⟩
                    · have hq2 : ((s.extract (i - 2) i).toList == [42, 47]) = false := by rw [hE2]; exact beq_eq_false_iff_ne.2 hc2
                      have HC : Hid (isCom (bl s) i = false) := by unfold Hid isCom; rw [HD1.out]; simp [hc2]
                      clear hge hc2 hE2
                      go_wp2_with fail
                      go_meet
                      case rel => exact ⟨by rw [HC.out], rfl⟩
                  · have hge' : ¬ (2 : Int) ≤ (i : Int) := by omega
                    have HC : Hid (isCom (bl s) i = false) := by unfold Hid isCom; rw [HD1.out]; simp [hge]
                    clear hge
                    go_wp2_with fail
                    go_meet
                    case rel => exact ⟨by rw [HC.out], rfl⟩
              · have h4' : ¬ (i : Int) + 4 ≤ (s.size : Int) := by omega
                have hD1 : decide (((bl s).drop i).take 4 = [123, 123, 47, 42]) = false := decide_eq_false (fun e => by
                  have := congrArg List.length e
                  rw [List.length_take, List.length_drop] at this
                  have q : (bl s).length = s.size := rfl
                  simp at this; omega)
                have HD1 := Lib.hid hD1
                clear h4 hD1
                by_cases hge : 2 ≤ i
                · have hge' : (2 : Int) ≤ (i : Int) := by omega
                  have hi2 : (i : Int) - 2 = ((i - 2 : Nat) : Int) := by omega
                  have hi3 : ((i - 2 : Nat) : Int) ≤ (i : Int) := by omega
                  have hE2 : (s.extract (i - 2) i).toList = ((bl s).drop (i - 2)).take 2 := by rw [ByteArray.toList_eq]; show bl _ = _; rw [extract_bl _ _ _ (by omega), show i - (i - 2) = 2 by omega]
                  by_cases hc2 : ((bl s).drop (i - 2)).take 2 = [42, 47]
                  · have hq2 : ((s.extract (i - 2) i).toList == [42, 47]) = true := by rw [hE2, hc2]; rfl
                    have HC : Hid (isCom (bl s) i = true) := by unfold Hid isCom; rw [hc2]; simp [hge]
                    clear hge hc2 hE2
                    go_wp2_with fail
                    go_meet
                    case rel => exact ⟨by rw [HC.out], rfl⟩
                  · have hq2 : ((s.extract (i - 2) i).toList == [42, 47]) = false := by rw [hE2]; exact beq_eq_false_iff_ne.2 hc2
                    have HC : Hid (isCom (bl s) i = false) := by unfold Hid isCom; rw [HD1.out]; simp [hc2]
                    clear hge hc2 hE2
                    go_wp2_with fail
                    go_meet
                    case rel => exact ⟨by rw [HC.out], rfl⟩
                · have hge' : ¬ (2 : Int) ≤ (i : Int) := by omega
                  have HC : Hid (isCom (bl s) i = false) := by unfold Hid isCom; rw [HD1.out]; simp [hge]
                  clear hge
                  go_wp2_with fail
                  go_meet
                  case rel => exact ⟨by rw [HC.out], rfl⟩
            case rest =>
              obtain ⟨rfl, rfl⟩ := hcut
              obtain ⟨TW, hTW⟩ : ∃ T, twoOf s i = T := ⟨_, rfl⟩
              obtain ⟨G, hG⟩ : ∃ T, mkB (gapB ways k) = T := ⟨_, rfl⟩
              obtain ⟨com, hcom⟩ : ∃ T, isCom (bl s) i = T := ⟨_, rfl⟩
              have HTWI : Hid (∀ x : By, x.length = 2 → (bl TW = x ↔ ((bl s).drop i).take 2 = x)) := fun x hx => by rw [← hTW]; exact two_iff s i x hx
              have HGL : Hid (bl G = gapB ways k) := by unfold Hid; rw [← hG]; rfl
              have hGs : G.size ≤ 2 := by have := gap_len ways k; rw [← HGL.out] at this; exact this
              have hTs : TW.size ≤ 2 := by
                rw [← hTW]; unfold twoOf; split
                · simp; omega
                · simp [ByteArray.size]
              have HCM : Hid (isCom (bl s) i = com) := hcom
              have hil : i < (bl s).length := hlt
              have hT2 : ∀ x : By, x.length = 2 → bl TW = x → i + 2 ≤ s.size := by
                intro x hx e
                have := (HTWI.out x hx).1 e
                have := congrArg List.length this
                rw [List.length_take, List.length_drop, hx] at this
                have q : (bl s).length = s.size := rfl
                omega
              rw [hTW, hG, hcom]
              have hTl : TW.toList = bl TW := by rw [ByteArray.toList_eq]; rfl
              clear hTW hG hcom
              cases inn with
              | false =>
                by_cases hb : bl TW = bra
                · have q1 : (TW.toList == [123, 123]) = true := by rw [hTl, hb]; rfl
                  have hi2 := hT2 bra rfl hb
                  have HE : Hid (((bl s).drop i).take 2 = bra) := (HTWI.out bra rfl).1 hb
                  have HTL : Hid (bl TW = [123, 123]) := hb
                  have HIL := Lib.hid hil
                  clear hb hT2 hTl hil hlt
                  cases com with
                  | true =>
                    have HBF2 : Hid (blankF (bl s) ways f (i + 2) true (k + 1) (bl (out ++ TW)) = R) := by unfold Hid; rw [← HBF.out, blank_b1 HIL.out HE.out, HCM.out]; congr 1; simp [bl_app, HGL.out, HTL.out, bra, ket]
                    go_wp2_with fail
                    go_roundw
                    case rel => exact ⟨_, true, k + 1, i + 2, f, by rfl, rfl, by go_num, by go_num, by omega, by omega, by simp; omega, by omega, HBF2, HBC⟩
                    case measure => simp [intOf]; omega
                  | false =>
                    have HBF2 : Hid (blankF (bl s) ways f (i + 2) true (k + 1) (bl (out ++ TW ++ G)) = R) := by unfold Hid; rw [← HBF.out, blank_b1 HIL.out HE.out, HCM.out]; congr 1; simp [bl_app, HGL.out, HTL.out, bra, ket]
                    go_wp2_with fail
                    go_roundw
                    case rel => exact ⟨_, true, k + 1, i + 2, f, by rfl, rfl, by go_num, by go_num, by omega, by omega, by simp; omega, by omega, HBF2, HBC⟩
                    case measure => simp [intOf]; omega
                · have q1 : (TW.toList == [123, 123]) = false := by rw [hTl]; exact beq_eq_false_iff_ne.2 hb
                  by_cases hk2 : bl TW = ket
                  · have q2 : (TW.toList == [125, 125]) = true := by rw [hTl, hk2]; rfl
                    clear hb hk2 hT2 hTl hil hlt
                    have HBE := Lib.hid (HB0.out.trans (HBC.out.mono (by omega)))
                    go_wp2_with fail
                    go_ret
                    exact ⟨rfl, HBE.out⟩
                  · have q2 : (TW.toList == [125, 125]) = false := by rw [hTl]; exact beq_eq_false_iff_ne.2 hk2
                    have HE1 : Hid (¬ ((bl s).drop i).take 2 = bra) := fun e => hb ((HTWI.out bra rfl).2 e)
                    have HE2 : Hid (¬ ((bl s).drop i).take 2 = ket) := fun e => hk2 ((HTWI.out ket rfl).2 e)
                    have HIL := Lib.hid hil
                    have hes : (s.extract i (i + 1)).size = 1 := by simp; omega
                    have HTL : Hid (bl (s.extract i (i + 1)) = [(bl s).getD i 0]) := take1_bl s i hlt
                    clear hb hk2 hT2 hTl hil hlt
                    have HBF2 : Hid (blankF (bl s) ways f (i + 1) false (k) (bl (out ++ s.extract i (i + 1))) = R) := by unfold Hid; rw [← HBF.out, blank_d0 HIL.out HE1.out HE2.out]; congr 1; simp [bl_app, HGL.out, HTL.out, bra, ket]
                    go_wp2_with fail
                    go_roundw
                    case rel => exact ⟨_, false, k, i + 1, f, by rfl, rfl, by go_num, by go_num, by omega, by omega, by simp; omega, by omega, HBF2, HBC⟩
                    case measure => simp [intOf]; omega
              | true =>
                by_cases hk2 : bl TW = ket
                · have q2 : (TW.toList == [125, 125]) = true := by rw [hTl, hk2]; rfl
                  have hi2 := hT2 ket rfl hk2
                  have HE : Hid (((bl s).drop i).take 2 = ket) := (HTWI.out ket rfl).1 hk2
                  have HTL : Hid (bl TW = [125, 125]) := hk2
                  have HIL := Lib.hid hil
                  clear hk2 hT2 hTl hil hlt
                  cases com with
                  | true =>
                    have HBF2 : Hid (blankF (bl s) ways f (i + 2) false (k) (bl (out ++ TW)) = R) := by unfold Hid; rw [← HBF.out, blank_k1 HIL.out HE.out, HCM.out]; congr 1; simp [bl_app, HGL.out, HTL.out, bra, ket]
                    go_wp2_with fail
                    go_roundw
                    case rel => exact ⟨_, false, k, i + 2, f, by rfl, rfl, by go_num, by go_num, by omega, by omega, by simp; omega, by omega, HBF2, HBC⟩
                    case measure => simp [intOf]; omega
                  | false =>
                    have HBF2 : Hid (blankF (bl s) ways f (i + 2) false (k) (bl (out ++ G ++ TW)) = R) := by unfold Hid; rw [← HBF.out, blank_k1 HIL.out HE.out, HCM.out]; congr 1; simp [bl_app, HGL.out, HTL.out, bra, ket]
                    go_wp2_with fail
                    go_roundw
                    case rel => exact ⟨_, false, k, i + 2, f, by rfl, rfl, by go_num, by go_num, by omega, by omega, by simp; omega, by omega, HBF2, HBC⟩
                    case measure => simp [intOf]; omega
                · have q2 : (TW.toList == [125, 125]) = false := by rw [hTl]; exact beq_eq_false_iff_ne.2 hk2
                  have HE2 : Hid (¬ ((bl s).drop i).take 2 = ket) := fun e => hk2 ((HTWI.out ket rfl).2 e)
                  have HIL := Lib.hid hil
                  have hgd : (bl s).getD i 0 = s[i] := byte_get s i hlt
                  by_cases h32 : (bl s).getD i 0 = 32
                  · have q3 : ((s[i].toNat : Int) == 32) = true := by rw [← hgd, h32]; rfl
                    have HE3 := Lib.hid h32
                    have HTL : Hid (bl ⟨#[32]⟩ = [32]) := rfl
                    have h1s : (⟨#[32]⟩ : ByteArray).size = 1 := rfl
                    clear hk2 hT2 hTl hil hgd h32
                    have HBF2 : Hid (blankF (bl s) ways f (i + 1) true (k) (bl (out ++ ⟨#[32]⟩ ++ G)) = R) := by unfold Hid; rw [← HBF.out, blank_s1 HIL.out HE2.out HE3.out]; congr 1; simp [bl_app, HGL.out, HTL.out, bra, ket]
                    go_wp2_with fail
                    go_roundw
                    case rel => exact ⟨_, true, k, i + 1, f, by rfl, rfl, by go_num, by go_num, by omega, by omega, by simp; omega, by omega, HBF2, HBC⟩
                    case measure => simp [intOf]; omega
                  · have q3 : ((s[i].toNat : Int) == 32) = false := by
                      refine beq_eq_false_iff_ne.2 (fun e => h32 ?_)
                      rw [hgd]
                      exact UInt8.toNat_inj.1 (show _ = (32 : Nat) by omega)
                    have HE3 := Lib.hid h32
                    have hes : (s.extract i (i + 1)).size = 1 := by simp; omega
                    have HTL : Hid (bl (s.extract i (i + 1)) = [(bl s).getD i 0]) := take1_bl s i hlt
                    clear hk2 hT2 hTl hil hgd h32
                    have HBF2 : Hid (blankF (bl s) ways f (i + 1) true (k) (bl (out ++ s.extract i (i + 1))) = R) := by unfold Hid; rw [← HBF.out, blank_d1 HIL.out HE2.out HE3.out]; congr 1; simp [bl_app, HGL.out, HTL.out, bra, ket]
                    go_wp2_with fail
                    go_roundw
                    case rel => exact ⟨_, true, k, i + 1, f, by rfl, rfl, by go_num, by go_num, by omega, by omega, by simp; omega, by omega, HBF2, HBC⟩
                    case measure => simp [intOf]; omega
      · have hlt' : ¬ (i : Int) < (s.size : Int) := by omega
        have hie : i = s.size := by omega
        have HRO : Hid (R = some (bl out)) := by
          unfold Hid; rw [← HBF.out]
          cases f with
          | zero => rfl
          | succ f => rw [blankF, if_pos (by have q : (bl s).length = s.size := rfl; omega)]
        have HBE := Lib.hid (HB0.out.trans (HB.out.mono (by omega)))
        have HSW : Hid (w.heap.size + 1 ≤ wr.heap.size) := by have := HB.out.size; rw [HS0.out] at this; exact this
        by_cases hbo : 16384 < out.size
        · have hbo' : (16384 : Int) < (out.size : Int) := by omega
          clear hbo
          go_wp2_with fail
          go_ret
          exact ⟨rfl, HBE.out⟩
        · have hbo' : ¬ (16384 : Int) < (out.size : Int) := by omega
          obtain ⟨hvo, u, hpu, hue⟩ := blanks_read t HN.out ways s.size (by rw [← HSS.out]; exact Nat.le_refl _) (bl out) (by rw [← HSS.out, HR.out, HRO.out]) (by show out.size ≤ _; omega)
          have HUE := Lib.hid hue
          have HUP : Hid (Calls Tryz.prog 16 #[.string out] wr (ParseR wr (.ok u))) := by
            have := parse_good (fun _ => none) out (by omega) hvo rfl wr (HG.out.below HBE.out)
            rwa [hpu] at this
          have HZU : Hid (TmZ u) := tmZ_era HUE.out.symm HZ.out
          clear hvo hpu hue hbo hie
          go_wp2_with fail
          refine HUP.out.mono ?_
          rintro e w4 ⟨hb4, um, ud, rfl, hum, hud⟩
          have HW4 : Hid (Below (w.heap.size + 1) w0 w4) := HB.out.trans (hb4.mono HSW.out)
          have HUM := Lib.hid hum
          have HUD := Lib.hid hud
          obtain ⟨uam, ucm, rfl, -⟩ := hum
          obtain ⟨uad, ucd, rfl, -⟩ := hud
          clear hb4
          obtain ⟨t0, t1, hb4, hs4⟩ := HTC.out _ HW4.out
          have HB4 := Lib.hid hb4
          clear hb4
          have HA5 : Hid (Below w4.heap.size w4 (w4.alloc (.cells #[.slice uam u.main.len ucm, .slice uad u.defs.length ucd] 25))) := (Below.refl _ w4).alloc (Nat.le_refl _) _
          have HT5 : Hid ((w4.alloc (.cells #[.slice uam u.main.len ucm, .slice uad u.defs.length ucd] 25)).heap[w4.heap.size]? = some (.cells #[.slice uam u.main.len ucm, .slice uad u.defs.length ucd] 25 (0, 0))) := heap_alloc_new w4 _
          have HS5 : Hid ((w4.alloc (.cells #[.slice uam u.main.len ucm, .slice uad u.defs.length ucd] 25)).heap.size = w4.heap.size + 1) := by unfold Hid; simp
          have hlt5 : w.heap.size < w4.heap.size := by omega
          have e0 := (HA5.out.cell (p := ⟨w.heap.size, 0, none⟩) hlt5).trans t0
          have e1 := (HA5.out.cell (p := ⟨w.heap.size, 1, none⟩) hlt5).trans t1
          have y0 : (w4.alloc (.cells #[.slice uam u.main.len ucm, .slice uad u.defs.length ucd] 25)).cell? ⟨w4.heap.size, 0, none⟩ = some (.slice uam u.main.len ucm) := by rw [cell_of_heap' HT5.out]; rfl
          have y1 : (w4.alloc (.cells #[.slice uam u.main.len ucm, .slice uad u.defs.length ucd] 25)).cell? ⟨w4.heap.size, 1, none⟩ = some (.slice uad u.defs.length ucd) := by rw [cell_of_heap' HT5.out]; rfl
          have HB5 : Hid (Below w.heap.size w (w4.alloc (.cells #[.slice uam u.main.len ucm, .slice uad u.defs.length ucd] 25))) := HB4.out.trans (HA5.out.mono (by omega))
          have SM : Hid (Calls Tryz.prog 14 #[.agg #[.slice am t.main.len cm, .slice a t.defs.length c], .agg #[.slice uam u.main.len ucm, .slice uad u.defs.length ucd], .bool false] (w4.alloc (.cells #[.slice uam u.main.len ucm, .slice uad u.defs.length ucd] 25)) fun e w' => e = .returned (.bool true) ∧ Below (w4.alloc (.cells #[.slice uam u.main.len ucm, .slice uad u.defs.length ucd] 25)).heap.size (w4.alloc (.cells #[.slice uam u.main.len ucm, .slice uad u.defs.length ucd] 25)) w') :=
            sameTemplate_calls t u HUE.out.symm false (fun e => by cases e) _ _ _ _ _ _ (w4.alloc (.cells #[.slice uam u.main.len ucm, .slice uad u.defs.length ucd] 25)) HZ.out (HI.out.mainAt HB5.out) (HUM.out.kept (fun b hb => HA5.out.block b hb.2)) (HI.out.defsAt HB5.out) (HUD.out.kept (fun b hb => HA5.out.block b hb.2))
          clear t0 t1 hlt5
          go_wp2_with fail
          refine SM.out.mono ?_
          rintro e w7 ⟨rfl, hb7⟩
          have HB7 : Hid (Below w.heap.size w w7) := HB5.out.trans (hb7.mono (by rw [HS5.out]; omega))
          clear hb7 y0 y1 e0 e1
          go_wp2_with fail
          go_ret
          exact ⟨rfl, HB7.out⟩
  · have f0 : ((n : Int) == 0) = false := beq_eq_false_iff_ne.2 (by omega)
    have f2 : ¬ (n : Int) = 0 := by omega
    clear h0 t0 t1
    go_wp2_with fail
    go_ret
    exact ⟨rfl, HB3.out⟩
end Go.Proofs.YtdgcdjpjnhlihaaGreatDoor
