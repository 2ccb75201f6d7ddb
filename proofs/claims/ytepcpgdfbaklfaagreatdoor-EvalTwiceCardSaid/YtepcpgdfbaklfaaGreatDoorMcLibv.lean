/- The library's contracts that lie proved over any program, at this seat's numbers: one renaming, and that this program bears the bodies and the types. Written by mklib.py. No condition. -/
import Derived.Shelf.Strings.BuilderK
import Derived.Shelf.Strings.Shaped
import Derived.Shelf.Small.Strs
import Derived.Shelf.Unicode.ValidAny
import Derived.Test.YtepcpgdfbaklfaaGreatDoorProg
import Derived.Test.YtepcpgdfbaklfaaGreatDoorMcLib
import Derived.Test.YtepcpgdfbaklfaaGreatDoorMcMath
import Derived.Test.YtepcpgdfbaklfaaGreatDoorMcTp0
namespace Go.Proofs.YtepcpgdfbaklfaaGreatDoor
open Go.Shelf
def Lv.ren : Ren := ⟨fun | 196 => 113 | 259 => 143 | n => n, fun | 0 => 0 | 3 => 3 | 4 => 4 | 5 => 5 | 9 => 9 | 12 => 12 | 37 => 134 | 46 => 195 | 53 => 27 | 72 => 136 | 119 => 191 | 138 => 193 | 139 => 194 | n => n, fun | 3 => 0 | 4 => 1 | n => n⟩
theorem Lv.n196 : Go.Proofs.Lays.n196 Tryz.prog Lv.ren := {
 mixed := by kernel_rfl
 f196 := Tryz.func113.trans (congrArg some (by kernel_rfl))
 f259 := Tryz.func143.trans (congrArg some (by kernel_rfl))
 t0 := Tryz.underlying0
 a0 := Tryz.isAgg0
 z0 := Tryz.sizeOf0
 v0 := Tryz.zeroValue0
 t3 := Tryz.underlying3
 a3 := Tryz.isAgg3
 z3 := Tryz.sizeOf3
 v3 := Tryz.zeroValue3
 t4 := Tryz.underlying4
 a4 := Tryz.isAgg4
 z4 := Tryz.sizeOf4
 v4 := Tryz.zeroValue4
 t5 := Tryz.underlying5
 a5 := Tryz.isAgg5
 z5 := Tryz.sizeOf5
 v5 := Tryz.zeroValue5
 t9 := Tryz.underlying9
 a9 := Tryz.isAgg9
 z9 := Tryz.sizeOf9
 v9 := Tryz.zeroValue9
 t12 := Tryz.underlying12
 a12 := Tryz.isAgg12
 z12 := Tryz.sizeOf12
 v12 := Tryz.zeroValue12
 t46 := Tryz.underlying195
 a46 := Tryz.isAgg195
 z46 := Tryz.sizeOf195
 v46 := Tryz.zeroValue195
 t53 := Tryz.underlying27
 a53 := Tryz.isAgg27
 z53 := Tryz.sizeOf27
 v53 := Tryz.zeroValue27
 t119 := Tryz.underlying191
 a119 := Tryz.isAgg191
 z119 := Tryz.sizeOf191
 t138 := Tryz.underlying193
 a138 := Tryz.isAgg193
 z138 := Tryz.sizeOf193
 v138 := Tryz.zeroValue193
 t139 := Tryz.underlying194
 a139 := Tryz.isAgg194
 z139 := Tryz.sizeOf194
 v139 := Tryz.zeroValue194
 g3 := by kernel_rfl
 g4 := by kernel_rfl }
theorem Lv.extra : Builder.Extra Tryz.prog Lv.ren := {
 sizeBuilder := by kernel_rfl
 liesBuilder := by kernel_rfl
 t5 := Tryz.underlying5
 a5 := Tryz.isAgg5
 z5 := Tryz.sizeOf5
 v5 := Tryz.zeroValue5
 infoByte := by kernel_rfl
 cellsByte := by kernel_rfl
 sizeByte := by kernel_rfl
 neB5 := by decide }
set_option linter.unusedVariables false
open Go.RowKit Go.Shelf Go.Lib
theorem valid_calls (s : ByteArray) (hs : s.size ≤ 1099511627776) (w : World) (hT : Tabs w) :
 Calls Tryz.prog 72 #[.string s] w fun e w' => e = .returned (.bool (validD s.data.toList)) ∧ Below w.heap.size w w' := by
 have H : Hid (∀ w, Tabs w → Calls Tryz.prog 113 #[.string s] w fun e w' => e = .returned (.bool (validD s.data.toList)) ∧ Below w.heap.size w w') := fun w h => Any.utf8_ValidString Lv.n196 s w (by omega) h
 have HT := Lib.hid hT
 clear hT
 generalize validD s.data.toList = v at *
 go_enter Tryz.func72, Tryz.ntmps72
 go_wp2_with fail
 refine (H.out _ HT.out).mono ?_
 rintro e w1 ⟨rfl, hb1⟩
 go_wp2
 go_ret
 exact ⟨rfl, hb1⟩
open Go.RowKit Go.Shelf
def kwB : List ByteArray := [⟨#[105, 102]⟩, ⟨#[101, 108, 115, 101]⟩, ⟨#[101, 110, 100]⟩, ⟨#[114, 97, 110, 103, 101]⟩, ⟨#[99, 97, 108, 108]⟩, ⟨#[100, 101, 102, 105, 110, 101]⟩]
theorem kwB_eq (s : ByteArray) : Lib.containsS (kwB.take 6) s = kws.contains (bl s) := contains_bl _ _
theorem kw_cells (w : World) : ∀ j, j < kwB.length → (w.alloc (.cells #[.string ⟨#[105, 102]⟩, .string ⟨#[101, 108, 115, 101]⟩, .string ⟨#[101, 110, 100]⟩, .string ⟨#[114, 97, 110, 103, 101]⟩, .string ⟨#[99, 97, 108, 108]⟩, .string ⟨#[100, 101, 102, 105, 110, 101]⟩] 9)).cell? ⟨w.heap.size, 0 + j, none⟩ = some (.string (kwB.getD j ByteArray.empty)) := by
 intro j hj
 rw [cell_of_heap' (heap_alloc_new w _)]
 have hj' : j < 6 := hj
 rcases (by omega : j = 0 ∨ j = 1 ∨ j = 2 ∨ j = 3 ∨ j = 4 ∨ j = 5) with rfl | rfl | rfl | rfl | rfl | rfl <;> rfl
theorem containsK_calls (s : ByteArray) (w : World) :
 Calls Tryz.prog 66 #[.slice (some ⟨w.heap.size, 0, none⟩) 6 6, .string s] (w.alloc (.cells #[.string ⟨#[105, 102]⟩, .string ⟨#[101, 108, 115, 101]⟩, .string ⟨#[101, 110, 100]⟩, .string ⟨#[114, 97, 110, 103, 101]⟩, .string ⟨#[99, 97, 108, 108]⟩, .string ⟨#[100, 101, 102, 105, 110, 101]⟩] 9)) fun e w' => e = .returned (.bool (kws.contains (bl s))) ∧ Below w.heap.size w w' := by
 refine (Tryz.slices_Contains_string w.heap.size 0 6 6 kwB s _ (by decide) (by decide) (kw_cells w)).mono ?_
 rintro e w' ⟨rfl, rfl⟩
 rw [kwB_eq]
 exact ⟨rfl, (Below.refl _ w).alloc (Nat.le_refl _) _⟩
theorem name_calls (s : ByteArray) (hs : s.size ≤ 140737488351232) (w : World) :
 Calls Tryz.prog 39 #[.string s] w fun e w' => e = .returned (.bool (nameOk (bl s))) ∧ Below w.heap.size w w' := by
 have LC := Lib.hid (fun w => letters_any s hs w)
 have CK := Lib.hid (fun w => containsK_calls s w)
 cases hl : lets (bl s) with
 | false =>
   have HE : Hid (nameOk (bl s) = false) := by unfold Hid nameOk; rw [hl]; rfl
   rw [hl] at LC
   clear hl
   go_enter Tryz.func39, Tryz.ntmps39
   go_wp2_with fail
   refine (LC.out _).mono ?_
   rintro e w1 ⟨rfl, hb1⟩
   have HB := Lib.hid hb1
   clear hb1
   go_wp2_with fail
   go_ret
   exact ⟨ret_bool HE.out.symm, HB.out⟩
 | true =>
   have HE : Hid (nameOk (bl s) = !kws.contains (bl s)) := by unfold Hid nameOk; rw [hl]; rfl
   rw [hl] at LC
   generalize kws.contains (bl s) = v at *
   clear hl
   go_enter Tryz.func39, Tryz.ntmps39
   go_wp2_with fail
   refine (LC.out _).mono ?_
   rintro e w1 ⟨rfl, hb1⟩
   have HB := Lib.hid hb1
   clear hb1
   go_wp2_with fail
   refine (CK.out _).mono ?_
   rintro e w2 ⟨rfl, hb2⟩
   replace HB := Lib.hid (HB.out.trans (hb2.mono HB.out.size))
   clear hb2
   go_wp2_with fail
   go_ret
   exact ⟨ret_bool HE.out.symm, HB.out⟩
theorem valid_any (s : ByteArray) (hs : s.size ≤ 16777216) (w : World) (hg : Gd w) :
 Calls Tryz.prog 72 #[.string s] w fun e w' => e = .returned (.bool (Lib.validD (bl s))) ∧ Below w.heap.size w w' := valid_calls s (by omega) w hg.2
theorem contains2_calls (s : ByteArray) (hs : s.size ≤ 16777216) (w : World) (hg : Gd w) :
 Calls Tryz.prog 104 #[.string s, .string ⟨#[123, 123]⟩] w fun e w' => e = .returned (.bool (cut2 123 (bl s)).isSome) ∧ w = w' := by
 obtain ⟨m, hm⟩ := hg.1
 refine (Tryz.strings_Contains s ⟨#[123, 123]⟩ m w (by omega) hm).mono ?_
 rintro e w' ⟨rfl, rfl⟩
 exact ⟨ret_bool (contains_cut2 123 (bl s)), rfl⟩
theorem suffix1_calls (s : ByteArray) (hs : s.size ≤ 16777216) (w : World) :
 Calls Tryz.prog 79 #[.string s, .string ⟨#[123]⟩] w fun e w' => e = .returned (.bool (decide ((bl s).getLast? = some 123))) ∧ w = w' := by
 refine (Tryz.strings_HasSuffix s ⟨#[123]⟩ w (by omega)).mono ?_
 rintro e w' ⟨rfl, rfl⟩
 exact ⟨ret_bool (suffix1 123 (bl s)), rfl⟩
set_option maxHeartbeats 1000000 in
theorem may_calls (s : ByteArray) (last : Bool) (hs : s.size ≤ 16777216) (w : World) (hg : Gd w) :
 Calls Tryz.prog 64 #[.string s, .bool last] w fun e w' => e = .returned (.bool (mayB (bl s) last)) ∧ Below w.heap.size w w' := by
 have HG := Lib.hid hg
 have VA := Lib.hid (fun w h => valid_any s hs w h)
 have CO := Lib.hid (fun w h => contains2_calls s hs w h)
 have SU := Lib.hid (fun w => suffix1_calls s hs w)
 clear hg
 by_cases h0 : s.size = 0
 · obtain rfl := size0 s h0
   have HE : Hid (mayB (bl ⟨#[]⟩) last = false) := rfl
   clear h0 hs VA CO SU HG
   go_enter Tryz.func64, Tryz.ntmps64
   go_wp2_with fail
   go_ret
   exact ⟨ret_bool HE.out.symm, Below.refl _ _⟩
 have hne := ne_str s (by omega)
 have hsl : (bl s).length = s.size := by simp [bl]
 have hem : (bl s).isEmpty = false := by cases hx : bl s with | nil => rw [hx] at hsl; simp at hsl; omega | cons c r => rfl
 have HM : Hid (mayB (bl s) last = (Lib.validD (bl s) && (cut2 123 (bl s)).isNone && (last || decide ((bl s).getLast? ≠ some 123)))) := by unfold Hid mayB; rw [hem]; rfl
 clear h0 hsl hem
 cases hv : Lib.validD (bl s) with
 | false =>
   have HE : Hid (mayB (bl s) last = false) := by unfold Hid; rw [HM.out, hv]; rfl
   rw [hv] at VA
   clear hv CO SU HM
   go_enter Tryz.func64, Tryz.ntmps64
   go_wp2_with fail
   refine (VA.out _ HG.out).mono ?_
   rintro e w1 ⟨rfl, hb1⟩
   have HB := Lib.hid hb1
   clear hb1
   go_wp2_with fail
   go_ret
   exact ⟨ret_bool HE.out.symm, HB.out⟩
 | true =>
   cases hc : (cut2 123 (bl s)).isSome with
   | true =>
     have HE : Hid (mayB (bl s) last = false) := by
      unfold Hid; rw [HM.out]
      cases hq : cut2 123 (bl s) with
      | none => rw [hq] at hc; cases hc
      | some q => simp
     rw [hv] at VA
     rw [hc] at CO
     clear hv hc SU HM
     go_enter Tryz.func64, Tryz.ntmps64
     go_wp2_with fail
     refine (VA.out _ HG.out).mono ?_
     rintro e w1 ⟨rfl, hb1⟩
     have HB := Lib.hid hb1
     replace HG := Lib.hid (HG.out.below hb1)
     clear hb1
     go_wp2_with fail
     refine (CO.out _ HG.out).mono ?_
     rintro e w' ⟨rfl, rfl⟩
     go_wp2_with fail
     go_ret
     exact ⟨ret_bool HE.out.symm, HB.out⟩
   | false =>
     have HN : Hid (mayB (bl s) last = (last || !decide ((bl s).getLast? = some 123))) := by
      unfold Hid; rw [HM.out, hv]
      cases hq : cut2 123 (bl s) with
      | none => simp
      | some q => rw [hq] at hc; cases hc
     rw [hv] at VA
     rw [hc] at CO
     clear hv hc HM
     cases last with
     | true =>
       have HE : Hid (mayB (bl s) true = true) := by unfold Hid; rw [HN.out]; rfl
       clear HN SU
       go_enter Tryz.func64, Tryz.ntmps64
       go_wp2_with fail
       refine (VA.out _ HG.out).mono ?_
       rintro e w1 ⟨rfl, hb1⟩
       have HB := Lib.hid hb1
       replace HG := Lib.hid (HG.out.below hb1)
       clear hb1
       go_wp2_with fail
       refine (CO.out _ HG.out).mono ?_
       rintro e w' ⟨rfl, rfl⟩
       go_wp2_with fail
       go_ret
       exact ⟨ret_bool HE.out.symm, HB.out⟩
     | false =>
       have HE : Hid (mayB (bl s) false = !decide ((bl s).getLast? = some 123)) := by unfold Hid; rw [HN.out]; rfl
       generalize decide ((bl s).getLast? = some 123) = v at *
       clear HN
       go_enter Tryz.func64, Tryz.ntmps64
       go_wp2_with fail
       refine (VA.out _ HG.out).mono ?_
       rintro e w1 ⟨rfl, hb1⟩
       have HB := Lib.hid hb1
       replace HG := Lib.hid (HG.out.below hb1)
       clear hb1
       go_wp2_with fail
       refine (CO.out _ HG.out).mono ?_
       rintro e w' ⟨rfl, rfl⟩
       go_wp2_with fail
       refine (SU.out _).mono ?_
       rintro e w' ⟨rfl, rfl⟩
       go_wp2_with fail
       go_ret
       exact ⟨ret_bool HE.out.symm, HB.out⟩
theorem ret_bl {a : ByteArray} {b : By} (h : bl a = b) : Ending.returned (.string a) = .returned (.string ⟨b.toArray⟩) := by
 rw [← h]; simp [bl]
theorem dots_drop (l : List ByteArray) (k : Nat) (s : ByteArray) (h : l[k]? = some s) : dots (bls (l.drop k)) = 46 :: bl s ++ dots (bls (l.drop (k + 1))) := by
 have hlt := (List.getElem?_eq_some_iff.1 h).1
 rw [List.drop_eq_getElem_cons hlt]
 have : l[k] = s := (List.getElem?_eq_some_iff.1 h).2
 rw [this]; rfl
set_option maxHeartbeats 2000000 in
theorem path_calls (ok : Nat → Prop) (root : Bool) (l : List ByteArray) (hl : (wayS root (bls l)).length ≤ 16777216) (v : Value) (w : World) (h : Strs ok w v l) (hok : ∀ b, ok b → b < w.heap.size) :
 Calls Tryz.prog 112 #[.agg #[.bool root, v]] w fun e w' => e = .returned (.string ⟨(wayS root (bls l)).toArray⟩) ∧ Below w.heap.size w w' := by
 obtain ⟨a, c, rfl, h1, h2, h3⟩ := h
 have hc64 : c ≤ 9223372036854775807 := by unfold maxLen at h2; exact h2
 have HB0 := Lib.hid ((Below.refl w.heap.size w).alloc (Nat.le_refl _) (.cells #[.bool root, .slice a l.length c] 54))
 by_cases hn : l = [] ∧ root = false
 · obtain ⟨rfl, rfl⟩ := hn
   have HE : Hid (bl ⟨#[46]⟩ = wayS false (bls [])) := rfl
   clear h3 hl hok h1 h2
   go_enter Tryz.func112, Tryz.ntmps112
   go_wp2_with fail
   go_ret
   exact ⟨ret_bl HE.out, HB0.out⟩
 have HT : Hid (wayS root (bls l) = (if root then [36] else []) ++ dots (bls l)) := by
  unfold Hid wayS
  rw [if_neg]
  rintro ⟨e1, e2⟩
  apply hn
  refine ⟨?_, e2⟩
  cases l with
  | nil => rfl
  | cons x l => simp [bls] at e1
 have hlen : l.length ≤ 16777216 := by
  rw [HT.out] at hl
  have : ∀ l : List ByteArray, l.length ≤ (dots (bls l)).length := by
   intro l
   induction l with
   | nil => exact Nat.zero_le _
   | cons x l ih => simp [bls, dots] at ih ⊢; omega
  have := this l
  simp at hl; omega
 obtain ⟨T, hT⟩ : ∃ T, wayS root (bls l) = T := ⟨_, rfl⟩
 rw [hT] at hl HT
 have HTT := Lib.hid hT
 have H3 := Lib.hid h3
 have HK := Lib.hid hok
 have H0 : ∀ acc : ByteArray, bl acc = (if root then [36] else []) → Hid (bl acc ++ dots (bls (l.drop 0)) = T) := fun acc ha => by unfold Hid; rw [ha, List.drop_zero]; exact HT.out.symm
 rw [hT]
 clear hT h3 hok HT
 have tst : ∀ (t : Bool), (l.length == 0) = t → Hid ((((l.length : Nat) : Int) == 0) = t) := fun t ht => by
  unfold Hid; rw [← ht, Bool.eq_iff_iff]; simp
 cases hroot : root
 all_goals
  cases hz : (l.length == 0)
  all_goals
   try (exfalso; apply hn; refine ⟨?_, hroot⟩; simpa using hz; done)
  all_goals
   have ht := (tst _ hz).out
   rw [hroot] at HB0 H0
   have HH0 : (∀ A : ByteArray, A = ⟨#[36]⟩ ∨ A = ⟨#[]⟩ → True) := fun _ _ => trivial
   first
   | replace HH0 := H0 ⟨#[36]⟩ rfl
   | replace HH0 := H0 ⟨#[]⟩ rfl
   clear tst hn hroot hz H0 HTT
   go_enter Tryz.func112, Tryz.ntmps112
   go_wp2_with fail
   generalize hW1 : World.alloc _ _ = W1 at *
   clear hW1
   go_loop [3, 20] (fun v3 v20 => ∃ (k : Nat) (acc : ByteArray), v3 = .string acc ∧ v20 = .int .i64 k ∧ k ≤ l.length ∧ Hid (bl acc ++ dots (bls (l.drop k)) = T)) (fun _ i => l.length - (intOf i).toNat)
   case atStart => exact ⟨0, _, rfl, rfl, Nat.zero_le _, HH0⟩
   case round =>
    obtain ⟨k, acc, rfl, rfl, hk, HG⟩ := hrel
    clear HH0 ht
    by_cases hlt : k < l.length
    · obtain ⟨b, o, ha, hb1, hcells⟩ := H3.out (by intro e; rw [e] at hlt; simp at hlt)
      obtain ⟨s, hsk⟩ : ∃ s, l[k]? = some s := ⟨_, List.getElem?_eq_getElem hlt⟩
      have hc : W1.cell? ⟨b, o + k, none⟩ = some (.string s) := (HB0.out.cell (p := ⟨b, o + k, none⟩) (HK.out b hb1)).trans (hcells k s hsk)
      have hlt' : (k : Int) < (l.length : Int) := by omega
      have HG2 : Hid (bl (acc ++ (⟨#[46]⟩ ++ s)) ++ dots (bls (l.drop (k + 1))) = T) := by
       unfold Hid
       rw [← HG.out, dots_drop l k s hsk]
       simp [bl]
      have hsz : acc.size + 1 + s.size ≤ 16777216 := by
       have := congrArg List.length HG2.out
       simp [bl] at this
       omega
      clear hcells hsk
      subst ha
      go_wp2_with fail
      go_round
      case rel => exact ⟨k + 1, _, rfl, by go_num, hlt, HG2⟩
      case measure => simp [intOf]; omega
    · have hge : ¬ (k : Int) < (l.length : Int) := by omega
      have HG2 : Hid (bl acc = T) := by unfold Hid; rw [← HG.out, List.drop_of_length_le (by omega)]; simp [bls, dots]
      go_wp2_with fail
      go_ret
      exact ⟨ret_bl HG2.out, HB0.out⟩
def DRow (ok : Nat → Prop) (w : World) : List Df → Nat → Nat → Prop
 | [], _, _ => True
 | d :: r, b, o => w.cell? ⟨b, o, none⟩ = some (.string d.name) ∧ w.cell? ⟨b, o + 1, none⟩ = some (.int .i64 d.pos) ∧ (∃ v, w.cell? ⟨b, o + 2, none⟩ = some v ∧ Parts ok w v d.kids) ∧ DRow ok w r b (o + 3)
def Defs (ok : Nat → Prop) (w : World) (v : Value) (l : List Df) : Prop :=
 ∃ (a : Option Addr) (c : Nat), v = .slice a l.length c ∧ l.length ≤ c ∧ c ≤ maxLen ∧ (l ≠ [] → ∃ b o, a = some ⟨b, o, none⟩ ∧ ok b ∧ DRow ok w l b o)
theorem DRow.kept {ok : Nat → Prop} {w w' : World} (hk : Kept ok w w') : ∀ (l : List Df) (b o : Nat), ok b → DRow ok w l b o → DRow ok w' l b o := by
 intro l
 induction l with
 | nil => intro b o _ _; exact trivial
 | cons d r ih =>
   intro b o hb hr
   obtain ⟨c0, c1, ⟨v, c2, hp⟩, hrest⟩ := hr
   exact ⟨(hk.cell hb _).trans c0, (hk.cell hb _).trans c1, ⟨v, (hk.cell hb _).trans c2, hp.kept hk⟩, ih b _ hb hrest⟩
theorem DRow.mono {ok ok' : Nat → Prop} {w : World} (hk : ∀ b, ok b → ok' b) : ∀ (l : List Df) (b o : Nat), DRow ok w l b o → DRow ok' w l b o := by
 intro l
 induction l with
 | nil => intro b o _; exact trivial
 | cons d r ih =>
   intro b o hr
   obtain ⟨c0, c1, ⟨v, c2, hp⟩, hrest⟩ := hr
   exact ⟨c0, c1, ⟨v, c2, hp.mono hk⟩, ih b _ hrest⟩
theorem DRow.at {ok : Nat → Prop} {w : World} : ∀ (l : List Df) (b o k : Nat) (d : Df), l[k]? = some d → DRow ok w l b o →
 w.cell? ⟨b, o + k * 3, none⟩ = some (.string d.name) ∧ w.cell? ⟨b, o + k * 3 + 1, none⟩ = some (.int .i64 d.pos) ∧ ∃ v, w.cell? ⟨b, o + k * 3 + 2, none⟩ = some v ∧ Parts ok w v d.kids := by
 intro l
 induction l with
 | nil => intro b o k d h; simp at h
 | cons d0 r ih =>
   intro b o k d h hr
   obtain ⟨c0, c1, c2, hrest⟩ := hr
   cases k with
   | zero =>
     simp at h; subst h
     rw [Nat.zero_mul, Nat.add_zero]
     exact ⟨c0, c1, c2⟩
   | succ k =>
     have := ih b (o + 3) k d (by simpa using h) hrest
     rw [show o + 3 + k * 3 = o + (k + 1) * 3 by omega] at this
     exact this
theorem Defs.kept {ok : Nat → Prop} {w w' : World} {v : Value} {l : List Df} (h : Defs ok w v l) (hk : Kept ok w w') : Defs ok w' v l := by
 obtain ⟨a, c, hv, h1, h2, h3⟩ := h
 refine ⟨a, c, hv, h1, h2, fun hl => ?_⟩
 obtain ⟨b, o, ha, hb, hc⟩ := h3 hl
 exact ⟨b, o, ha, hb, hc.kept hk _ _ _ hb⟩
theorem Defs.mono {ok ok' : Nat → Prop} {w : World} {v : Value} {l : List Df} (h : Defs ok w v l) (hk : ∀ b, ok b → ok' b) : Defs ok' w v l := by
 obtain ⟨a, c, hv, h1, h2, h3⟩ := h
 refine ⟨a, c, hv, h1, h2, fun hl => ?_⟩
 obtain ⟨b, o, ha, hb, hc⟩ := h3 hl
 exact ⟨b, o, ha, hk b hb, hc.mono hk _ _ _⟩
theorem Defs.nil (ok : Nat → Prop) (w : World) : Defs ok w (.slice none 0 0) [] := ⟨none, 0, rfl, Nat.le_refl _, by decide, fun h => absurd rfl h⟩
theorem definedF_calls (x n : ByteArray) (p v2 : Value) (b o : Nat) (w : World) (hc : w.cell? ⟨b, o, none⟩ = some (.string n)) :
 Calls Tryz.prog 89 #[.agg #[.string x, p, v2], .pointer (some ⟨b, o, none⟩)] w fun e w' => e = .returned (.bool (bl x == bl n)) ∧ Below w.heap.size w w' := by
 have hlt := lt_of_cell hc
 have hc1 : (w.alloc (.cells #[.string x, p, v2] 70)).cell? ⟨b, o, none⟩ = some (.string n) := (World.cell?_alloc_old w _ _ (Nat.ne_of_lt hlt)).trans hc
 have HE : Hid ((x.toList == n.toList) = (bl x == bl n)) := by unfold Hid bl; rw [ByteArray.toList_eq, ByteArray.toList_eq]
 have HB := Lib.hid ((Below.refl w.heap.size w).alloc (Nat.le_refl _) (.cells #[.string x, p, v2] 70))
 clear hc hlt
 go_enter Tryz.func89, Tryz.ntmps89
 go_wp2_with fail
 go_ret
 exact ⟨ret_bool HE.out, HB.out⟩
def findD (n : By) : List Df → Nat → Int
 | [], _ => -1
 | d :: l, k => if bl d.name == n then (k : Int) else findD n l (k + 1)
theorem findD_has (n : By) (l : List Df) : ∀ k, decide (0 ≤ findD n l k) = hasDef l n := by
 induction l with
 | nil => intro k; rfl
 | cons d l ih =>
   intro k
   unfold findD
   split
   · rename_i h; simp [hasDef, h]
   · rename_i h; rw [ih]; simp [hasDef, h]
set_option maxHeartbeats 1000000 in
theorem indexD_calls (ok : Nat → Prop) (l : List Df) (hl : l.length ≤ 140737488351232) (n : ByteArray) (v : Value) (b0 o0 : Nat) (w : World) (h : Defs ok w v l) (hok : ∀ b, ok b → b < w.heap.size) (hn : w.cell? ⟨b0, o0, none⟩ = some (.string n)) :
 Calls Tryz.prog 127 #[v, .func (.func 89) #[] #[.pointer (some ⟨b0, o0, none⟩)]] w fun e w' => e = .returned (.int .i64 (findD (bl n) l 0)) ∧ Below w.heap.size w w' := by
 obtain ⟨a, c, rfl, h1, h2, h3⟩ := h
 have ee : ∀ args w, (callFunc 89 args).run Tryz.prog w = .ok (.enter 89 args) w := enters_of Tryz.func89 (by kernel_rfl) rfl
 have H3 := Lib.hid h3
 have HK := Lib.hid hok
 have HN := Lib.hid hn
 clear h3 hok hn
 go_enter Tryz.func127, Tryz.ntmps127
 go_wp2_with fail
 go_loopw [8] (fun i wr => ∃ k : Nat, i = .int .i64 k ∧ k ≤ l.length ∧ Below w.heap.size w wr ∧ Hid (findD (bl n) (l.drop k) k = findD (bl n) l 0)) (fun i _ => l.length - (intOf i).toNat)
 case atStart => exact ⟨0, rfl, Nat.zero_le _, Below.refl _ _, rfl⟩
 case round =>
  obtain ⟨k, rfl, hk, hb, HG⟩ := hrel
  by_cases hlt : k < l.length
  · obtain ⟨b, o, ha, hb1, hrow⟩ := H3.out (by intro e; rw [e] at hlt; simp at hlt)
    obtain ⟨d, hdk⟩ : ∃ d, l[k]? = some d := ⟨_, List.getElem?_eq_getElem hlt⟩
    obtain ⟨d0, d1, vk, d2, -⟩ := hrow.at l b o k d hdk
    have c0 := (hb.cell (p := ⟨b, o + k * 3, none⟩) (HK.out b hb1)).trans d0
    have c1 := (hb.cell (p := ⟨b, o + k * 3 + 1, none⟩) (HK.out b hb1)).trans d1
    have c2 := (hb.cell (p := ⟨b, o + k * 3 + 2, none⟩) (HK.out b hb1)).trans d2
    have DF := Lib.hid (fun w h => definedF_calls d.name n (.int .i64 d.pos) vk b0 o0 w h)
    have hnn := (hb.cell (p := ⟨b0, o0, none⟩) (lt_of_cell HN.out)).trans HN.out
    have HNN := Lib.hid hnn
    have hlt' : (k : Int) < (l.length : Int) := by omega
    have HB := Lib.hid hb
    have HD : Hid (l.drop k = d :: l.drop (k + 1)) := by
     unfold Hid
     rw [List.drop_eq_getElem_cons hlt]
     rw [List.getElem?_eq_getElem hlt] at hdk
     injection hdk with e; rw [e]
    clear hrow hdk hb hnn d0 d1 d2
    subst ha
    cases hv : (bl d.name == bl n) with
    | false =>
      rw [hv] at DF
      have HG2 : Hid (findD (bl n) (l.drop (k + 1)) (k + 1) = findD (bl n) l 0) := by unfold Hid; rw [← HG.out, HD.out, findD, if_neg (by simp [hv])]
      clear hv
      go_wp2_with fail
      refine (DF.out _ HNN.out).mono ?_
      rintro e w1 ⟨rfl, hb2⟩
      replace HB := Lib.hid (HB.out.trans (hb2.mono HB.out.size))
      clear hb2
      go_wp2_with fail
      go_roundw
      case rel => exact ⟨k + 1, by go_num, hlt, HB.out, HG2⟩
      case measure => simp [intOf]; omega
    | true =>
      rw [hv] at DF
      have HG2 : Hid ((k : Int) = findD (bl n) l 0) := by unfold Hid; rw [← HG.out, HD.out, findD, if_pos hv]
      clear hv
      go_wp2_with fail
      refine (DF.out _ HNN.out).mono ?_
      rintro e w1 ⟨rfl, hb2⟩
      replace HB := Lib.hid (HB.out.trans (hb2.mono HB.out.size))
      clear hb2
      go_wp2_with fail
      go_ret
      exact ⟨ret_i64 HG2.out, HB.out⟩
  · have hge : ¬ (k : Int) < (l.length : Int) := by omega
    have HG2 : Hid (findD (bl n) l 0 = -1) := by unfold Hid; rw [← HG.out, List.drop_of_length_le (by omega)]; rfl
    have HB := Lib.hid hb
    clear hb
    go_wp2_with fail
    go_ret
    exact ⟨ret_i64 HG2.out.symm, HB.out⟩
theorem containsD_calls (ok : Nat → Prop) (l : List Df) (hl : l.length ≤ 140737488351232) (n : ByteArray) (v : Value) (b0 o0 : Nat) (w : World) (h : Defs ok w v l) (hok : ∀ b, ok b → b < w.heap.size) (hn : w.cell? ⟨b0, o0, none⟩ = some (.string n)) :
 Calls Tryz.prog 88 #[v, .func (.func 89) #[] #[.pointer (some ⟨b0, o0, none⟩)]] w fun e w' => e = .returned (.bool (hasDef l (bl n))) ∧ Below w.heap.size w w' := by
 have IC := Lib.hid (indexD_calls ok l hl n v b0 o0 w h hok hn)
 have HE := Lib.hid (findD_has (bl n) l 0)
 generalize findD (bl n) l 0 = r at *
 clear h hok hl hn
 go_enter Tryz.func88, Tryz.ntmps88
 go_wp2_with fail
 refine IC.out.mono ?_
 rintro e w1 ⟨rfl, hb1⟩
 go_wp2_with fail
 go_ret
 exact ⟨ret_bool HE.out, hb1⟩
theorem defined_calls (ok : Nat → Prop) (l : List Df) (hl : l.length ≤ 140737488351232) (n : ByteArray) (v : Value) (w : World) (h : Defs ok w v l) (hok : ∀ b, ok b → b < w.heap.size) :
 Calls Tryz.prog 48 #[v, .string n] w fun e w' => e = .returned (.bool (hasDef l (bl n))) ∧ Below w.heap.size w w' := by
 have hb := (Below.refl w.heap.size w).alloc (Nat.le_refl _) (.cells #[.string n] 9)
 have hn : (w.alloc (.cells #[.string n] 9)).cell? ⟨w.heap.size, 0, none⟩ = some (.string n) := by rw [cell_of_heap' (heap_alloc_new w _)]; rfl
 have CC := Lib.hid (containsD_calls ok l hl n v w.heap.size 0 _ (h.kept (fun b hb2 => hb.block b (hok b hb2))) (fun b hb2 => Nat.lt_of_lt_of_le (hok b hb2) hb.size) hn)
 have HB := Lib.hid hb
 have hmf : ∀ (fn : Fn) (first cap : Array Value) (w : World), (Instr.makeFunc fn first cap).run Tryz.prog w = .ok (.func fn first cap) w := fun _ _ _ _ => rfl
 generalize hasDef l (bl n) = r at *
 clear h hok hl hn hb
 go_enter Tryz.func48, Tryz.ntmps48
 go_wp2_with fail
 refine CC.out.mono ?_
 rintro e w1 ⟨rfl, hb1⟩
 replace HB := Lib.hid (HB.out.trans (hb1.mono HB.out.size))
 clear hb1
 go_wp2_with fail
 go_ret
 exact ⟨rfl, HB.out⟩
attribute [local go_sem ↓] Go.wp_at_zero Go.wp_at_succ
def lkCells (dv : Value) (many deep : Int) (tw no : Bool) : Array Value := #[dv, .int .i64 many, .int .i64 deep, .bool tw, .bool no]
def Lk (bx : Nat) (dv : Value) (many deep : Int) (tw no : Bool) (w : World) : Prop := w.heap[bx]? = some (.cells (lkCells dv many deep tw no) 87 (0, 0))
structure Lk.Cs (bx : Nat) (dv : Value) (many deep : Int) (tw no : Bool) (w : World) : Prop where
 c0 : w.cell? ⟨bx, 0, none⟩ = some dv
 c1 : w.cell? ⟨bx, 1, none⟩ = some (.int .i64 many)
 c2 : w.cell? ⟨bx, 2, none⟩ = some (.int .i64 deep)
 c3 : w.cell? ⟨bx, 3, none⟩ = some (.bool tw)
 c4 : w.cell? ⟨bx, 4, none⟩ = some (.bool no)
 fz : ∀ j, w.frozen? ⟨bx, j, none⟩ = false
theorem Lk.cs {bx : Nat} {dv : Value} {many deep : Int} {tw no : Bool} {w : World} (h : Lk bx dv many deep tw no w) : Lk.Cs bx dv many deep tw no w :=
 ⟨by rw [cell_of_heap' h]; rfl, by rw [cell_of_heap' h]; rfl, by rw [cell_of_heap' h]; rfl, by rw [cell_of_heap' h]; rfl, by rw [cell_of_heap' h]; rfl, frozen_cells h⟩
theorem Lk.lt {bx : Nat} {dv : Value} {many deep : Int} {tw no : Bool} {w : World} (h : Lk bx dv many deep tw no w) : bx < w.heap.size := lt_of_block h
theorem Lk.set1 {bx : Nat} {dv : Value} {many deep : Int} {tw no : Bool} {w : World} (h : Lk bx dv many deep tw no w) (x : Int) : Lk bx dv x deep tw no (w.setCell ⟨bx, 1, none⟩ (.int .i64 x)) := by
 unfold Lk lkCells at h ⊢
 simp [World.setCell, Array.getElem?_modify, h]
theorem Lk.set2 {bx : Nat} {dv : Value} {many deep : Int} {tw no : Bool} {w : World} (h : Lk bx dv many deep tw no w) (x : Int) : Lk bx dv many x tw no (w.setCell ⟨bx, 2, none⟩ (.int .i64 x)) := by
 unfold Lk lkCells at h ⊢
 simp [World.setCell, Array.getElem?_modify, h]
theorem Lk.set3 {bx : Nat} {dv : Value} {many deep : Int} {tw no : Bool} {w : World} (h : Lk bx dv many deep tw no w) (x : Bool) : Lk bx dv many deep x no (w.setCell ⟨bx, 3, none⟩ (.bool x)) := by
 unfold Lk lkCells at h ⊢
 simp [World.setCell, Array.getElem?_modify, h]
theorem Lk.set4 {bx : Nat} {dv : Value} {many deep : Int} {tw no : Bool} {w : World} (h : Lk bx dv many deep tw no w) (x : Bool) : Lk bx dv many deep tw x (w.setCell ⟨bx, 4, none⟩ (.bool x)) := by
 unfold Lk lkCells at h ⊢
 simp [World.setCell, Array.getElem?_modify, h]
theorem Lk.kept {bx : Nat} {dv : Value} {many deep : Int} {tw no : Bool} {w w' : World} (h : Lk bx dv many deep tw no w) (hk : w'.heap[bx]? = w.heap[bx]?) : Lk bx dv many deep tw no w' := hk.trans h
theorem Lk.below {bx : Nat} {dv : Value} {many deep : Int} {tw no : Bool} {w w' : World} (h : Lk bx dv many deep tw no w) (hb : Below w.heap.size w w') : Lk bx dv many deep tw no w' := hk_of h hb
where hk_of {bx : Nat} {dv : Value} {many deep : Int} {tw no : Bool} {w w' : World} (h : Lk bx dv many deep tw no w) (hb : Below w.heap.size w w') : Lk bx dv many deep tw no w' := (hb.block bx h.lt).trans h
def Gr (bx : Nat) (w w' : World) : Prop := w.grownBy w' (some bx)
theorem Gr.refl (bx : Nat) (w : World) : Gr bx w w := World.grownBy.refl w _
theorem Gr.trans {bx : Nat} {a b c : World} (h : Gr bx a b) (k : Gr bx b c) : Gr bx a c :=
 ⟨k.os.trans h.os, k.tape.trans h.tape, k.output.trans h.output, Nat.le_trans h.size k.size, fun i hi hn => (k.block i (Nat.lt_of_lt_of_le hi h.size) hn).trans (h.block i hi hn)⟩
theorem Gr.set {bx : Nat} (w : World) (j : Nat) (v : Value) : Gr bx w (w.setCell ⟨bx, j, none⟩ v) := by
 refine ⟨rfl, rfl, rfl, by simp [World.setCell], fun i hi hn => ?_⟩
 exact Below.heap_setCell _ _ _ _ (fun e => hn (by rw [e]))
theorem Gr.alloc {bx : Nat} (w : World) (o : Obj) : Gr bx w (w.alloc o) := World.grownBy_alloc w o _
theorem Gr.drew {bx : Nat} (w : World) : Gr bx w w.drew := ⟨rfl, rfl, rfl, Nat.le_refl _, fun _ _ _ => rfl⟩
theorem Gr.below {bx : Nat} {w w' : World} (h : Below w.heap.size w w') : Gr bx w w' := ⟨h.os, h.tape, h.output, h.size, fun k hk _ => h.block k hk⟩
theorem Gr.kept {bx : Nat} {w w' : World} (h : Gr bx w w') : Kept (fun b => b < w.heap.size ∧ b ≠ bx) w w' := fun b hb => h.block b hb.1 (fun e => hb.2 (by injection e))
theorem Gr.to_below {bx B : Nat} {w w' : World} (h : Gr bx w w') (hB : B ≤ w.heap.size) (hx : B ≤ bx) : Below B w w' := ⟨h.os, h.tape, h.output, h.size, fun k hk => h.block k (Nat.lt_of_lt_of_le hk hB) (fun e => by cases e; omega)⟩
theorem len_le_cnt (t : Pt) : t.len ≤ t.cnt := by
 induction t with
 | nil => exact Nat.le_refl _
 | cons h k e r _ _ ih => simp [Pt.len, Pt.cnt]; omega
theorem deep_le_cnt (t : Pt) : t.deep ≤ t.cnt := by
 induction t with
 | nil => exact Nat.le_refl _
 | cons h k e r ihk ihe ih =>
   simp only [Pt.deep, Pt.cnt]
   split <;> omega
def Hd.sm (h : Hd) : Prop := h.kind < 256 ∧ h.text.size ≤ 16777216 ∧ h.name.size ≤ 16777216 ∧ h.names.length ≤ 16777216 ∧ ∀ n ∈ h.names, n.size ≤ 16777216
def Pt.sm : Pt → Prop
 | .nil => True
 | .cons h k e r => h.sm ∧ k.sm ∧ e.sm ∧ r.sm
theorem te (s : ByteArray) : (bl s).isEmpty = true ↔ s.toList = [] := by
 unfold bl; rw [ByteArray.toList_eq]; simp
theorem nl (k e : Pt) : (k.isNil = true ∧ e.isNil = true) ↔ ((k.len : Int) + (e.len : Int) = 0) := by
 have h : ∀ t : Pt, t.isNil = true ↔ t.len = 0 := fun t => by cases t <;> simp [Pt.isNil, Pt.len]
 rw [h, h]; omega
theorem hd1 (h : Hd) (k e : Pt) (last : Bool) (hk : h.kind = 1) : hdOk h k e last = true ↔ (mayB (bl h.text) last = true ∧ h.name.toList = [] ∧ h.root = false ∧ ((h.names.length : Nat) : Int) = 0 ∧ ((k.len : Int) + (e.len : Int) = 0)) := by
 unfold hdOk
 rw [if_pos hk, ← te, ← nl]
 have hn : ((h.names.length : Nat) : Int) = 0 ↔ h.names.isEmpty = true := by cases h.names <;> simp; omega
 rw [hn]
 simp only [Bool.and_eq_true, Bool.not_eq_true']
 constructor
 · rintro ⟨⟨⟨⟨⟨a, b⟩, c⟩, d⟩, f⟩, g⟩; exact ⟨a, d, b, c, f, g⟩
 · rintro ⟨a, d, b, c, f, g⟩; exact ⟨⟨⟨⟨⟨a, b⟩, c⟩, d⟩, f⟩, g⟩
theorem hd2 (h : Hd) (k e : Pt) (last : Bool) (hk : h.kind = 2) : hdOk h k e last = true ↔ (namesOk (bls h.names) = true ∧ h.text.toList = [] ∧ h.name.toList = [] ∧ ((k.len : Int) + (e.len : Int) = 0)) := by
 unfold hdOk
 rw [if_neg (by omega), if_pos hk, ← te, ← te, ← nl]
 simp only [Bool.and_eq_true]
 constructor
 · rintro ⟨⟨⟨⟨a, b⟩, c⟩, d⟩, f⟩; exact ⟨a, b, c, d, f⟩
 · rintro ⟨a, b, c, d, f⟩; exact ⟨⟨⟨⟨a, b⟩, c⟩, d⟩, f⟩
theorem hd34 (h : Hd) (k e : Pt) (last : Bool) (hk : h.kind = 3 ∨ h.kind = 4) : hdOk h k e last = true ↔ (namesOk (bls h.names) = true ∧ h.text.toList = [] ∧ h.name.toList = []) := by
 unfold hdOk
 rw [if_neg (by omega), if_neg (by omega), if_pos hk, ← te, ← te]
 simp only [Bool.and_eq_true]
 constructor
 · rintro ⟨⟨a, b⟩, c⟩; exact ⟨a, b, c⟩
 · rintro ⟨a, b, c⟩; exact ⟨⟨a, b⟩, c⟩
theorem hd5 (h : Hd) (k e : Pt) (last : Bool) (hk : h.kind = 5) : hdOk h k e last = true ↔ (namesOk (bls h.names) = true ∧ nameOk (bl h.name) = true ∧ h.text.toList = [] ∧ ((k.len : Int) + (e.len : Int) = 0)) := by
 unfold hdOk
 rw [if_neg (by omega), if_neg (by omega), if_neg (by omega), if_pos hk, ← te, ← nl]
 simp only [Bool.and_eq_true]
 constructor
 · rintro ⟨⟨⟨⟨a, b⟩, c⟩, d⟩, f⟩; exact ⟨a, c, b, d, f⟩
 · rintro ⟨a, c, b, d, f⟩; exact ⟨⟨⟨⟨a, b⟩, c⟩, d⟩, f⟩
theorem hd0 (h : Hd) (k e : Pt) (last : Bool) (hk : h.kind ≠ 1 ∧ h.kind ≠ 2 ∧ h.kind ≠ 3 ∧ h.kind ≠ 4 ∧ h.kind ≠ 5) : hdOk h k e last = false := by
 unfold hdOk
 rw [if_neg hk.1, if_neg hk.2.1, if_neg (by omega), if_neg hk.2.2.2.2]
def wrongV (e at_ : Int) : Value := .iface 84 (.agg #[.int .i64 e, .int .i64 at_])
def LkPost (bx : Nat) (dv : Value) (M D : Nat) (tw N F : Bool) (w : World) (e : Ending) (w' : World) : Prop :=
 Gr bx w w' ∧ ((F = true ∧ e = .returned (.tuple #[]) ∧ Lk bx dv M D tw N w') ∨ (F = false ∧ e = .panicked [{ v := wrongV 190 0, recovered := false }]))
theorem Lk.other {bx : Nat} {dv : Value} {many deep : Int} {tw no : Bool} {w : World} (h : Lk bx dv many deep tw no w) {q : Nat} (hq : q ≠ bx) (j : Nat) (v : Value) : Lk bx dv many deep tw no (w.setCell ⟨q, j, none⟩ v) :=
 h.kept (Below.heap_setCell _ _ _ _ (fun e => hq e.symm))
theorem Gr.set_new {bx : Nat} {w w' : World} (h : Gr bx w w') {q : Nat} (hq : w.heap.size ≤ q) (j : Nat) (v : Value) : Gr bx w (w'.setCell ⟨q, j, none⟩ v) :=
 ⟨h.os, h.tape, h.output, by rw [show (w'.setCell ⟨q, j, none⟩ v).heap.size = w'.heap.size by simp [World.setCell]]; exact h.size, fun i hi hn => (Below.heap_setCell _ _ _ _ (fun e => by have e2 : i = q := e; omega)).trans (h.block i hi hn)⟩
theorem two_new {w w1 : World} {x y : Obj} (h : Below ((w.alloc x).alloc y).heap.size ((w.alloc x).alloc y) w1) : w1.heap[w.heap.size]? = some x ∧ w1.heap[w.heap.size + 1]? = some y ∧ w.heap.size + 1 < w1.heap.size := by
 have hs : ((w.alloc x).alloc y).heap.size = w.heap.size + 1 + 1 := by simp
 have e1 : ((w.alloc x).alloc y).heap[w.heap.size]? = some x := by
  rw [Below.heap_alloc _ _ _ (by simp)]; exact heap_alloc_new w x
 have e2 : ((w.alloc x).alloc y).heap[w.heap.size + 1]? = some y := by
  have := heap_alloc_new (w.alloc x) y
  rwa [show (w.alloc x).heap.size = w.heap.size + 1 by simp] at this
 exact ⟨(h.block _ (by omega)).trans e1, (h.block _ (by omega)).trans e2, by have := h.size; omega⟩
def pCells (h : Hd) (vn vk ve : Value) : Array Value := #[.int .u8 (h.kind : Nat), .int .i64 h.pos, .string h.text, .bool h.root, vn, .string h.name, vk, ve]
def bCells (h : Hd) (k e : Pt) : Array Value := #[.string h.text, .string h.name, .bool h.root, .int .i64 (h.names.length : Nat), .int .i64 ((k.len : Int) + (e.len : Int))]
structure Two (P : Nat) (h : Hd) (vn vk ve : Value) (k e : Pt) (w : World) : Prop where
 p : w.heap[P]? = some (.cells (pCells h vn vk ve) 56 (0, 0))
 q : w.heap[P + 1]? = some (.cells (bCells h k e) 129 (0, 0))
theorem Two.gr {P bx : Nat} {h : Hd} {vn vk ve : Value} {k e : Pt} {w w' : World} (t : Two P h vn vk ve k e w) (g : Gr bx w w') (h1 : P ≠ bx) (h2 : P + 1 ≠ bx) : Two P h vn vk ve k e w' :=
 ⟨(g.block P (lt_of_block t.p) (fun e => h1 (by injection e))).trans t.p, (g.block (P + 1) (lt_of_block t.q) (fun e => h2 (by injection e))).trans t.q⟩
structure Two.Cs (P : Nat) (h : Hd) (vn vk ve : Value) (k e : Pt) (w : World) : Prop where
 p0 : w.cell? ⟨P, 0, none⟩ = some (.int .u8 (h.kind : Nat))
 p2 : w.cell? ⟨P, 2, none⟩ = some (.string h.text)
 p5 : w.cell? ⟨P, 5, none⟩ = some (.string h.name)
 p6 : w.cell? ⟨P, 6, none⟩ = some vk
 p7 : w.cell? ⟨P, 7, none⟩ = some ve
 q0 : w.cell? ⟨P + 1, 0, none⟩ = some (.string h.text)
 q1 : w.cell? ⟨P + 1, 1, none⟩ = some (.string h.name)
 q2 : w.cell? ⟨P + 1, 2, none⟩ = some (.bool h.root)
 q3 : w.cell? ⟨P + 1, 3, none⟩ = some (.int .i64 (h.names.length : Nat))
 q4 : w.cell? ⟨P + 1, 4, none⟩ = some (.int .i64 ((k.len : Int) + (e.len : Int)))
 fz : ∀ j, w.frozen? ⟨P + 1, j, none⟩ = false
theorem Two.cs {P : Nat} {h : Hd} {vn vk ve : Value} {k e : Pt} {w : World} (t : Two P h vn vk ve k e w) : Two.Cs P h vn vk ve k e w :=
 ⟨by rw [cell_of_heap' t.p]; rfl, by rw [cell_of_heap' t.p]; rfl, by rw [cell_of_heap' t.p]; rfl, by rw [cell_of_heap' t.p]; rfl, by rw [cell_of_heap' t.p]; rfl,
  by rw [cell_of_heap' t.q]; rfl, by rw [cell_of_heap' t.q]; rfl, by rw [cell_of_heap' t.q]; rfl, by rw [cell_of_heap' t.q]; rfl, by rw [cell_of_heap' t.q]; rfl, frozen_cells t.q⟩
theorem Gr.keptB {bx B : Nat} {w w' : World} (h : Gr bx w w') (hB : B ≤ bx) (hw : bx < w.heap.size) : Kept (· < B) w w' := fun b hb => by
 have hb' : b < B := hb
 exact h.block b (by omega) (fun e => by injection e; omega)
def GlB (B : Nat) : Prop := 2 < B ∧ 0 < B ∧ 1 < B
theorem Gd.glB {w : World} (h : Gd w) : GlB w.heap.size := ⟨h.1.lt, h.2.lt.1, h.2.lt.2⟩
theorem Gd.belowB {w w' : World} {B : Nat} (h : Gd w) (hg : GlB B) (hb : Below B w w') : Gd w' := by
 obtain ⟨m, hm⟩ := h.1
 exact ⟨⟨m, (hb.cell (p := ⟨2, 0, none⟩) hg.1).trans hm⟩, h.2.kept (hb.block _ hg.2.1) (hb.block _ hg.2.2)⟩
end Go.Proofs.YtepcpgdfbaklfaaGreatDoor
