/-
  Lists of texts that a call makes itself, by append; the contract of lacunaref19.words. The condition: the text takes at most 2 to the 24th bytes.
-/
/-
  The contract of lacunaref19.path. The condition: the text takes at most 2 to the 24th bytes.
-/
/-
  The contract of lacunaref19.path. The condition: the text takes at most 2 to the 24th bytes.
-/
import Derived.Test.YtdgcdjpjnhlihaaGreatDoorMgTen
import Derived.Test.YtdgcdjpjnhlihaaGreatDoorMgTma
import Derived.Test.YtdgcdjpjnhlihaaGreatDoorMgTq1
import Derived.Deep.RegionLaw
set_option linter.unusedVariables false
set_option linter.unusedSimpArgs false
namespace Go.Proofs.YtdgcdjpjnhlihaaGreatDoor
open Go.RowKit Go.Shelf
attribute [local go_sem ↓] Go.wp_at_zero Go.wp_at_succ

/-- A []string of the call's own, from block B on. -/
def OutS (B : Nat) (w : World) (v : Value) (l : List ByteArray) : Prop := w.ownsRow B 9 1 v l.length (l.map Value.string)
theorem OutS.nil (B : Nat) (w : World) : OutS B w (.slice none 0 0) [] := World.ownsRow_nil _ _ _ _
theorem OutS.block {B : Nat} {w : World} {v : Value} {l : List ByteArray} (h : OutS B w v l) : ∀ g, v.ownBlock = some g → B ≤ g ∧ g < w.heap.size := fun g hg => ⟨(World.ownsRow.lt h g hg).1, (World.ownsRow.lt h g hg).2⟩
theorem OutS.keep {B : Nat} {w w' : World} {v : Value} {l : List ByteArray} (h : OutS B w v l) (hb : ∀ g, v.ownBlock = some g → w'.heap[g]? = w.heap[g]?) : OutS B w' v l := ownsRow.same h hb
theorem OutS.below {B : Nat} {w w' : World} {v : Value} {l : List ByteArray} (h : OutS B w v l) (hb : Below w.heap.size w w') : OutS B w' v l := h.keep (fun g hg => hb.block g (h.block g hg).2)
theorem OutS.slice {B : Nat} {w : World} {v : Value} {l : List ByteArray} (h : OutS B w v l) : ∃ a n c, v = .slice a n c := by
  rcases h.2 with ⟨h, h0⟩ | ⟨g, cap, cur, h, -⟩
  · exact ⟨none, 0, 0, h⟩
  · exact ⟨_, _, cap, h⟩
theorem OutS.strs {B : Nat} {w : World} {v : Value} {l : List ByteArray} (h : OutS B w v l) : Strs (fun b => B ≤ b ∧ b < w.heap.size ∧ UnF w b) w v l := by
  cases l with
  | nil =>
    rcases h.2 with ⟨rfl, -⟩ | ⟨g, cap, cur, rfl, -, -, h1, h2, -⟩
    · exact Strs.nil _ _
    · exact ⟨_, _, rfl, h1, h2, fun hn => absurd rfl hn⟩
  | cons x l =>
    obtain ⟨g, c, rfl, h1, h2, h3, h4, h5⟩ := ownsRow.elems h (Nat.succ_pos _)
    exact ⟨_, _, rfl, h3, h4, fun _ => ⟨g, 0, rfl, ⟨h1, h2, (own_cells h).2⟩, fun i s hi => by rw [Nat.zero_add]; exact h5 i _ (by rw [List.getElem?_map, hi]; rfl)⟩⟩
theorem infoStrU : (Tryz.prog.info? 9).map (fun i => (i.zero, i.size, i.bytes)) = some (some (.string ⟨#[]⟩), 1, 16) := by kernel_rfl
theorem news_str {w : World} {q : Nat} {x : ByteArray} {T : TypeId} {fr : Nat × Nat} (hq : w.heap[q]? = some (.cells #[.string x] T fr)) : ∀ j u, ([.string x] : List Value)[j]? = some u → w.cell? ((⟨q, 0, none⟩ : Addr).add j) = some u := fun j u hu => by
  have hadd : (⟨q, 0, none⟩ : Addr).add j = ⟨q, j, none⟩ := by unfold Addr.add; split <;> simp_all
  rw [hadd, cell_of_heap' hq]; simpa using hu
/-- append of a text. -/
theorem app_txt {ops : Array Oper} {rest : List Oper} {o : Oper} {a : Act} {w : World} {Q : Exit → Act → World → Prop} (hgd : o.guard = none) (s x : Operand)
    (ho : o.op = .call { callee := .builtin .append, args := #[s, x], argTypes := #[43, 43] })
    (B : Nat) (v : Value) (l : List ByteArray) (hs : a.eval s = v) (hown : OutS B w v l) (y : ByteArray) (q c : Nat) (hx : a.eval x = .slice (some ⟨q, 0, none⟩) 1 c) (T : TypeId) (fr : Nat × Nat)
    (hq : w.heap[q]? = some (.cells #[.string y] T fr)) (hlen : l.length ≤ 16777216) (hB : B ≤ w.heap.size)
    (H : ∀ v' w', OutS B w' v' (l ++ [y]) → Below B w w' → wpList Tryz.prog ops Q rest (a.put o.dst v') w') : wpList Tryz.prog ops Q (o :: rest) a w := by
  obtain ⟨i0, hi, hz0, hz1, hz2⟩ := info_parts infoStrU
  refine wpList_append_lies w hgd s x 43 ho B 9 i0 _ 1 16 Tryz.underlying43 hi hz0 hz1 hz2 (by rfl) (by decide) v l.length (l.map Value.string) hs hown ⟨q, 0, none⟩ 1 c [.string y] hx (by rfl) (news_str hq) (by simp [Value.oneCell']) (by decide) (by unfold maxLen; omega) (by omega) hB w.heap.size rfl ?_
  intro g cap w' hown' hgrow hat hlt
  refine H _ w' ?_ ((Below.refl B w).grown hgrow hB (fun k hk => (World.ownsRow.lt hown k hk).1))
  unfold OutS
  rw [List.length_append, List.map_append]
  exact hown'
/-- The same as a step of a region that draws its order; what is not the slice's own stays. -/
theorem step_app_txt {ops : Array Oper} {o : Oper} {a : Act} {w : World} {K : Act → World → Prop} {Q : Exit → Act → World → Prop} {E : Prop} (hgd : o.guard = none) (s x : Operand)
    (ho : o.op = .call { callee := .builtin .append, args := #[s, x], argTypes := #[43, 43] })
    (B : Nat) (v : Value) (l : List ByteArray) (hs : a.eval s = v) (hown : OutS B w v l) (y : ByteArray) (q c : Nat) (hx : a.eval x = .slice (some ⟨q, 0, none⟩) 1 c) (T : TypeId) (fr : Nat × Nat)
    (hq : w.heap[q]? = some (.cells #[.string y] T fr)) (hlen : l.length ≤ 16777216) (hB : B ≤ w.heap.size)
    (H : ∀ v' w', OutS B w' v' (l ++ [y]) → Below B w w' → w.grownBy w' v.ownBlock → (v'.ownBlock = v.ownBlock ∨ v'.ownBlock = some w.heap.size) → K (a.put o.dst v') w') :
    if Region.wanted o (yielded ops a.tmps) = true then Oper.wp Tryz.prog o a w K Q else E := by
  obtain ⟨i0, hi, hz0, hz1, hz2⟩ := info_parts infoStrU
  refine step_append_lies w hgd s x 43 ho B 9 i0 _ 1 16 Tryz.underlying43 hi hz0 hz1 hz2 (by rfl) (by decide) v l.length (l.map Value.string) hs hown ⟨q, 0, none⟩ 1 c [.string y] hx (by rfl) (news_str hq) (by simp [Value.oneCell']) (by decide) (by unfold maxLen; omega) (by omega) hB w.heap.size rfl ?_
  intro g cap w' hown' hgrow hat hlt
  refine H _ w' ?_ ((Below.refl B w).grown hgrow hB (fun k hk => (World.ownsRow.lt hown k hk).1)) hgrow (hat.imp (fun h => by rw [h]; rfl) (fun h => by rw [← h]; rfl))
  unfold OutS
  rw [List.length_append, List.map_append]
  exact hown'

/-- What words still makes: of the word that is being read, and of the rest. -/
def goW (p : UInt8 → Bool) : By → By → List By
  | c, [] => if c = [] then [] else [c]
  | c, x :: r => if p x then (if c = [] then [] else [c]) ++ goW p [] r else goW p (c ++ [x]) r
theorem goW_split (p : UInt8 → Bool) : ∀ (r c : By), goW p c r = (match splitP p r with | [] => [] | h :: t => (c ++ h) :: t).filter (· ≠ []) := by
  intro r
  induction r with
  | nil =>
    intro c
    simp only [goW, splitP, List.append_nil]
    by_cases hc : c = []
    · subst hc; rfl
    · rw [if_neg hc, List.filter_cons_of_pos (by simpa using hc)]; rfl
  | cons x r ih =>
    intro c
    rw [goW, splitP]
    by_cases hp : p x = true
    · rw [if_pos hp, if_pos hp, ih]
      have e : (match splitP p r with | [] => [] | h :: t => ([] ++ h) :: t) = splitP p r := by
        cases splitP p r <;> rfl
      rw [e]
      simp only [List.append_nil]
      by_cases hc : c = []
      · subst hc; rfl
      · rw [if_neg hc, List.filter_cons_of_pos (by simpa using hc)]; rfl
    · rw [if_neg hp, if_neg hp, ih]
      have hne := splitP_ne p r
      cases hs : splitP p r with
      | nil => exact absurd hs hne
      | cons h t => simp
theorem goW_words (s : By) : goW blank [] s = wordsB s := by
  rw [goW_split]
  unfold wordsB
  cases splitP blank s <;> rfl
theorem wd_drop (s : ByteArray) (k : Nat) (h : k < s.size) : (bl s).drop k = s[k] :: (bl s).drop (k + 1) := by
  have : k < (bl s).length := h
  rw [List.drop_eq_getElem_cons this]
  rfl
theorem mk_snoc (c : By) (s : ByteArray) (k : Nat) (h : k < s.size) : mkB c ++ s.extract k (k + 1) = mkB (c ++ [s[k]]) := by
  apply ByteArray.ext
  apply Array.ext'
  have e : (s.extract k (k + 1)).data.toList = [s[k]] := by
    have := ext_bl s k (k + 1) (by omega)
    unfold bl at this
    rw [this, show k + 1 - k = 1 by omega]
    have w := wd_drop s k h
    unfold bl at w
    rw [w]; rfl
  rw [ByteArray.data_append, Array.toList_append, e]
  rfl
theorem u8eq (c : UInt8) (n : Nat) (hn : n < 256) : ((c.toNat : Int) == (n : Int)) = decide (c = UInt8.ofNat n) := by
  rw [Bool.eq_iff_iff]; simp
  constructor
  · intro h
    apply UInt8.toNat_inj.1
    rw [UInt8.toNat_ofNat_of_lt' hn]; omega
  · rintro rfl
    rw [UInt8.toNat_ofNat_of_lt' hn]
def WdP (s : ByteArray) (w : World) (e : Ending) (w' : World) : Prop := ∃ v, e = .returned v ∧ Below w.heap.size w w' ∧ Strs (New w w') w' v ((wordsB (bl s)).map mkB)
/-- What stands in the loop of words. -/
def WdI (s : ByteArray) (k : Nat) (d : List By) (c : By) : Prop := (k ≤ s.size → d ++ goW blank c ((bl s).drop k) = wordsB (bl s)) ∧ (s.size < k → d = wordsB (bl s))
theorem wd_end {s : ByteArray} {d : List By} {c : By} (h : WdI s s.size d c) : WdI s (s.size + 1) (d ++ if c = [] then [] else [c]) [] := by
  have h1 := h.1 (Nat.le_refl _)
  rw [List.drop_of_length_le (show (bl s).length ≤ s.size from Nat.le_refl _), goW] at h1
  exact ⟨fun h => by omega, fun _ => h1⟩
theorem wd_blank {s : ByteArray} {k : Nat} {d : List By} {c : By} (hk : k < s.size) (hb : blank s[k] = true) (h : WdI s k d c) : WdI s (k + 1) (d ++ if c = [] then [] else [c]) [] := by
  have h1 := h.1 (Nat.le_of_lt hk)
  rw [wd_drop s k hk, goW, if_pos hb, ← List.append_assoc] at h1
  exact ⟨fun _ => h1, fun h => by omega⟩
theorem wd_on {s : ByteArray} {k : Nat} {d : List By} {c : By} (hk : k < s.size) (hb : blank s[k] = false) (h : WdI s k d c) : WdI s (k + 1) d (c ++ [s[k]]) := by
  have h1 := h.1 (Nat.le_of_lt hk)
  rw [wd_drop s k hk, goW, if_neg (by rw [hb]; decide)] at h1
  exact ⟨fun _ => h1, fun h => by omega⟩
set_option maxRecDepth 100000 in
set_option maxHeartbeats 8000000 in
theorem wordsR_calls (s : ByteArray) (hs : s.size ≤ 16777216) (w : World) :
    Calls Tryz.prog 87 #[.string s] w (WdP s w) := by
  go_enter Tryz.func87, Tryz.ntmps87
  go_wp2_with fail
  go_loopw [3, 4, 5] (fun v3 v4 v5 wr => ∃ (k : Nat) (oa : Option Addr) (on oc : Nat) (d : List By) (C : ByteArray), v3 = .slice oa on oc ∧ v4 = .string C ∧ v5 = .int .i64 (k : Nat) ∧ k ≤ s.size + 1 ∧ C.size ≤ k ∧ d.length ≤ k ∧ Hid (OutS w.heap.size wr (.slice oa on oc) (d.map mkB)) ∧ Hid (WdI s k d (bl C)) ∧ Hid (Below w.heap.size w wr)) (fun _ _ i _ => s.size + 2 - (intOf i).toNat)
  case atStart => exact ⟨0, none, 0, 0, [], ⟨#[]⟩, rfl, rfl, rfl, by omega, Nat.le_refl _, Nat.le_refl _, OutS.nil _ _, ⟨fun _ => by rw [List.nil_append, List.drop_zero]; exact goW_words _, fun h => by omega⟩, Below.refl _ _⟩
  case round =>
    obtain ⟨k, oa, on, oc, d, C, rfl, rfl, rfl, hk, hC, hd, HO, HW, HB⟩ := hrel
    have hsw := HB.out.size
    by_cases hle : k ≤ s.size
    · have hle' : (k : Int) ≤ (s.size : Int) := by omega
      -- the word is put, at its end
      have PUT : Hid (∀ b : Bool, C.toList.isEmpty = b → b = decide (bl C = [])) := by
        intro b hb
        rw [← hb, ByteArray.toList_eq]
        show (bl C).isEmpty = _
        cases bl C <;> rfl
      have hA : Hid (Below wr.heap.size wr (wr.alloc (.cells #[.string C] 9))) := (Below.refl _ wr).alloc (Nat.le_refl _) _
      have hO2 : Hid (OutS w.heap.size (wr.alloc (.cells #[.string C] 9)) (.slice oa on oc) (d.map mkB)) := HO.out.below hA.out
      have hT : Hid ((wr.alloc (.cells #[.string C] 9)).heap[wr.heap.size]? = some (.cells #[.string C] 9 (0, 0))) := heap_alloc_new wr _
      have hZ : w.heap.size ≤ (wr.alloc (.cells #[.string C] 9)).heap.size := by simp; omega
      have hdl : (d.map mkB).length ≤ 16777216 := by rw [List.length_map]; omega
      have hmk : Hid ((d ++ [bl C]).map mkB = d.map mkB ++ [C]) := by unfold Hid; rw [List.map_append, List.map_singleton, mkB_bl]
      have hB2 : Hid (Below w.heap.size w (wr.alloc (.cells #[.string C] 9))) := HB.out.trans (hA.out.mono hsw)
      by_cases hsz : k = s.size
      · have hsz' : ((k : Int) == (s.size : Int)) = true := by rw [hsz]; exact beq_self_eq_true _
        have HN : Hid (WdI s (k + 1) (d ++ if bl C = [] then [] else [bl C]) []) := by have := HW.out; rw [hsz] at this ⊢; exact wd_end this
        clear hsz
        cases hE : C.toList.isEmpty with
        | true =>
          have hc : bl C = [] := of_decide_eq_true (PUT.out _ hE).symm
          have HN2 : Hid (WdI s (k + 1) d (bl ⟨#[]⟩)) := by have := HN.out; rw [if_pos hc, List.append_nil] at this; exact this
          clear hc HN
          go_wp2_with fail
          exact ⟨⟨k + 1, oa, on, oc, d, ⟨#[]⟩, rfl, rfl, by go_num, by omega, Nat.zero_le _, by omega, HO, HN2, HB⟩, by simp [intOf]; omega⟩
        | false =>
          have hc : ¬ bl C = [] := of_decide_eq_false (PUT.out _ hE).symm
          have HN2 : Hid (WdI s (k + 1) (d ++ [bl C]) (bl ⟨#[]⟩)) := by have := HN.out; rw [if_neg hc] at this; exact this
          clear hc HN
          go_wp2_with (at_builtin; refine app_txt rfl _ _ rfl w.heap.size (.slice oa on oc) _ rfl hO2.out C wr.heap.size _ rfl _ _ hT.out hdl hZ ?_; intro v1 w1 hv1 hb1; obtain ⟨a1, n1, c1, rfl⟩ := hv1.slice; have HV1 := Lib.hid hv1; have HB1 := Lib.hid (hB2.out.trans hb1); clear hv1 hb1)
          exact ⟨⟨k + 1, a1, n1, c1, d ++ [bl C], ⟨#[]⟩, rfl, rfl, by go_num, by omega, Nat.zero_le _, by rw [List.length_append, List.length_singleton]; omega, by rw [hmk.out]; exact HV1, HN2, HB1⟩, by simp [intOf]; omega⟩
      · have hlt : k < s.size := by omega
        have hsz' : ((k : Int) == (s.size : Int)) = false := beq_eq_false_iff_ne.2 (by omega)
        have q9 : ((s[k].toNat : Int) == 9) = decide (s[k] = 9) := u8eq s[k] 9 (by decide)
        have q10 : ((s[k].toNat : Int) == 10) = decide (s[k] = 10) := u8eq s[k] 10 (by decide)
        have q32 : ((s[k].toNat : Int) == 32) = decide (s[k] = 32) := u8eq s[k] 32 (by decide)
        have HBL : Hid (blank s[k] = (decide (s[k] = 9) || decide (s[k] = 10) || decide (s[k] = 32))) := by unfold Hid blank; rw [Bool.eq_iff_iff]; simp [or_assoc]
        have HY : Hid (blank s[k] = true → WdI s (k + 1) (d ++ if bl C = [] then [] else [bl C]) []) := fun h => wd_blank hlt h HW.out
        have HNO : Hid (blank s[k] = false → WdI s (k + 1) d (bl C ++ [s[k]])) := fun h => wd_on hlt h HW.out
        have hsn : Hid (C ++ s.extract k (k + 1) = mkB (bl C ++ [s[k]])) := by have := mk_snoc (bl C) s k hlt; rwa [mkB_bl] at this
        have hxs : (s.extract k (k + 1)).size = 1 := by rw [ByteArray.size_extract]; omega
        generalize decide (s[k] = 9) = b9 at *
        generalize decide (s[k] = 10) = b10 at *
        generalize decide (s[k] = 32) = b32 at *
        clear hsz
        by_cases hb : (b9 || b10 || b32) = true
        · have HN := Lib.hid (HY.out (HBL.out.trans hb))
          cases hE : C.toList.isEmpty with
          | true =>
            have hc : bl C = [] := of_decide_eq_true (PUT.out _ hE).symm
            have HN2 : Hid (WdI s (k + 1) d (bl ⟨#[]⟩)) := by have := HN.out; rw [if_pos hc, List.append_nil] at this; exact this
            clear hc HN HY HNO HBL PUT
            cases b9 <;> cases b10 <;> cases b32 <;> first | (exact absurd hb (by decide)) | (
              go_wp2_with fail
              exact ⟨⟨k + 1, oa, on, oc, d, ⟨#[]⟩, rfl, rfl, by go_num, by omega, Nat.zero_le _, by omega, HO, HN2, HB⟩, by simp [intOf]; omega⟩)
          | false =>
            have hc : ¬ bl C = [] := of_decide_eq_false (PUT.out _ hE).symm
            have HN2 : Hid (WdI s (k + 1) (d ++ [bl C]) (bl ⟨#[]⟩)) := by have := HN.out; rw [if_neg hc] at this; exact this
            clear hc HN HY HNO HBL PUT
            cases b9 <;> cases b10 <;> cases b32 <;> first | (exact absurd hb (by decide)) | (
              go_wp2_with (at_builtin; refine app_txt rfl _ _ rfl w.heap.size (.slice oa on oc) _ rfl hO2.out C wr.heap.size _ rfl _ _ hT.out hdl hZ ?_; intro v1 w1 hv1 hb1; obtain ⟨a1, n1, c1, rfl⟩ := hv1.slice; have HV1 := Lib.hid hv1; have HB1 := Lib.hid (hB2.out.trans hb1); clear hv1 hb1)
              exact ⟨⟨k + 1, a1, n1, c1, d ++ [bl C], ⟨#[]⟩, rfl, rfl, by go_num, by omega, Nat.zero_le _, by rw [List.length_append, List.length_singleton]; omega, by rw [hmk.out]; exact HV1, HN2, HB1⟩, by simp [intOf]; omega⟩)
        · have hb2 : (b9 || b10 || b32) = false := by simpa using hb
          have HN := Lib.hid (HNO.out (HBL.out.trans hb2))
          clear HY HNO HBL PUT hb
          cases b9 <;> cases b10 <;> cases b32 <;> first | (exact absurd hb2 (by decide)) | (
            go_wp2_with fail
            exact ⟨⟨k + 1, oa, on, oc, d, C ++ s.extract k (k + 1), rfl, rfl, by go_num, by omega, by rw [ByteArray.size_append, hxs]; omega, by omega, HO, by rw [hsn.out]; exact HN, HB⟩, by simp [intOf]; omega⟩)
    · have hle' : ¬ (k : Int) ≤ (s.size : Int) := by omega
      have HE : Hid (d = wordsB (bl s)) := HW.out.2 (by omega)
      have hST := HO.out.strs
      clear hle
      go_wp2_with fail
      go_ret
      exact ⟨_, rfl, HB.out, by rw [← HE.out]; exact hST⟩
end Go.Proofs.YtdgcdjpjnhlihaaGreatDoor
set_option linter.unusedVariables false
set_option linter.unusedSimpArgs false
namespace Go.Proofs.YtdgcdjpjnhlihaaGreatDoor
open Go.RowKit Go.Shelf
attribute [local go_sem ↓] Go.wp_at_zero Go.wp_at_succ

/-- What is still to be parted: the piece that is being read, and the rest. -/
def goN (p : UInt8 → Bool) : By → By → List By
  | c, [] => [c]
  | c, x :: r => if p x then c :: goN p [] r else goN p (c ++ [x]) r
theorem goN_split (p : UInt8 → Bool) : ∀ (r c : By), goN p c r = match splitP p r with | [] => [] | h :: t => (c ++ h) :: t := by
  intro r
  induction r with
  | nil => intro c; simp [goN, splitP]
  | cons x r ih =>
    intro c
    rw [goN, splitP]
    by_cases hp : p x = true
    · rw [if_pos hp, if_pos hp, ih]
      cases hs : splitP p r with
      | nil => exact absurd hs (splitP_ne p r)
      | cons h t => simp
    · rw [if_neg hp, if_neg hp, ih]
      cases hs : splitP p r with
      | nil => exact absurd hs (splitP_ne p r)
      | cons h t => simp
theorem goN_nil (p : UInt8 → Bool) (r : By) : goN p [] r = splitP p r := by
  rw [goN_split]
  cases hs : splitP p r with
  | nil => rfl
  | cons h t => rfl
theorem goN_mem (p : UInt8 → Bool) (c : By) (r : By) : ∀ x, r = [] ∨ (∃ y l, r = y :: l ∧ p y = true) → x = c → x ∈ goN p c r := by
  rintro x (rfl | ⟨y, l, rfl, hy⟩) rfl
  · simp [goN]
  · simp [goN, hy]
def isDot (c : UInt8) : Bool := c == 46
/-- What stands in the loop of path. -/
def PaI (S : ByteArray) (f i : Nat) (d : List By) : Prop :=
  (i ≤ S.size → d ++ goN isDot (((bl S).drop f).take (i - f)) ((bl S).drop i) = splitP isDot ((bl S).drop 1)) ∧ (S.size < i → d = splitP isDot ((bl S).drop 1))
theorem pa_cur {S : ByteArray} {f i : Nat} {d : List By} (h : PaI S f i d) (hi : i ≤ S.size) (hd : i = S.size ∨ ∃ h : i < S.size, isDot S[i] = true) : ((bl S).drop f).take (i - f) ∈ splitP isDot ((bl S).drop 1) := by
  have h1 := h.1 hi
  rw [← h1]
  refine List.mem_append_right _ (goN_mem isDot _ _ _ ?_ rfl)
  rcases hd with rfl | ⟨hl, hd⟩
  · exact .inl (List.drop_of_length_le (Nat.le_refl _))
  · exact .inr ⟨_, _, wd_drop S i hl, hd⟩
theorem pa_put {S : ByteArray} {f i : Nat} {d : List By} (h : PaI S f i d) (hi : i ≤ S.size) (hd : i = S.size ∨ ∃ h : i < S.size, isDot S[i] = true) : PaI S (i + 1) (i + 1) (d ++ [((bl S).drop f).take (i - f)]) := by
  have h1 := h.1 hi
  rcases hd with rfl | ⟨hl, hd⟩
  · rw [List.drop_of_length_le (l := bl S) (i := S.size) (Nat.le_refl _), goN] at h1
    exact ⟨fun h => by omega, fun _ => h1⟩
  · rw [wd_drop S i hl, goN, if_pos hd] at h1
    refine ⟨fun _ => ?_, fun h => by omega⟩
    rw [Nat.sub_self, List.take_zero, List.append_assoc]
    exact h1
theorem pa_on {S : ByteArray} {f i : Nat} {d : List By} (h : PaI S f i d) (hf : f ≤ i) (hl : i < S.size) (hd : isDot S[i] = false) : PaI S f (i + 1) d := by
  have h1 := h.1 (Nat.le_of_lt hl)
  rw [wd_drop S i hl, goN, if_neg (by rw [hd]; decide)] at h1
  refine ⟨fun _ => ?_, fun h => by omega⟩
  rw [← h1]
  congr 2
  have hlen : (bl S).length = S.size := rfl
  rw [show i + 1 - f = (i - f) + 1 by omega, List.take_add_one]
  congr 1
  rw [List.getElem?_drop, show f + (i - f) = i by omega, List.getElem?_eq_getElem (by omega)]
  rfl
/-- What path answers of what stands behind the dollar sign. -/
def paR (root : Bool) (S : By) : Option (Bool × List By) := if root = false ∧ S = [46] then some (false, []) else wayT root S
theorem pa_root (x : UInt8) (l : By) : wayB (36 :: x :: l) = paR true (x :: l) := by
  unfold paR; rw [if_neg (fun h => by cases h.1)]; rfl
theorem pa_plain (s : By) (h : s.head? ≠ some 36) : wayB s = paR false s := by
  unfold paR
  by_cases e : s = [46]
  · subst e; rfl
  · rw [if_neg (fun h => e h.2)]
    unfold wayB
    split
    · exact absurd rfl e
    · exact absurd rfl h
    · exact absurd rfl h
    · rfl
theorem pa_not (root : Bool) (S : By) (h : ¬ (root = false ∧ S = [46])) (h2 : S.head? ≠ some 46) : paR root S = none := by
  unfold paR
  rw [if_neg h]
  unfold wayT
  split
  · exact absurd rfl h2
  · rfl
theorem pa_dot (root : Bool) (S : By) (h : ¬ (root = false ∧ S = [46])) (h2 : S.head? = some 46) : paR root S = if namesOk (splitP isDot (S.drop 1)) then some (root, splitP isDot (S.drop 1)) else none := by
  unfold paR
  rw [if_neg h]
  cases S with
  | nil => cases h2
  | cons x l =>
    have : x = 46 := by simpa using h2
    subst this
    rfl
theorem head_bl (S : ByteArray) (h : 0 < S.size) : (bl S).head? = some S[0] := by
  have e := wd_drop S 0 h
  rw [List.drop_zero] at e
  rw [e]; rfl
def PaP (r : Option (Bool × List By)) (w : World) (e : Ending) (w' : World) : Prop := Below w.heap.size w w' ∧ match r with
  | none => e = .returned (.tuple #[.agg #[.bool false, .slice none 0 0], .bool false])
  | some p => ∃ v, e = .returned (.tuple #[.agg #[.bool p.1, v], .bool true]) ∧ Strs (New w w') w' v (p.2.map mkB)
theorem OutS.set {B q j : Nat} {w : World} {v u : Value} {l : List ByteArray} (h : OutS B w v l) (hq : q < B) : OutS B (w.setCell ⟨q, j, none⟩ u) v l :=
  h.keep (fun g hg => Below.heap_setCell _ _ _ _ (fun e => by have e2 : g = q := e; have := (h.block g hg).1; omega))
end Go.Proofs.YtdgcdjpjnhlihaaGreatDoor
set_option linter.unusedVariables false
set_option linter.unusedSimpArgs false
namespace Go.Proofs.YtdgcdjpjnhlihaaGreatDoor
open Go.RowKit Go.Shelf
attribute [local go_sem ↓] Go.wp_at_zero Go.wp_at_succ

set_option maxRecDepth 100000 in
set_option maxHeartbeats 16000000 in
theorem pathR_calls (s : ByteArray) (hs : s.size ≤ 16777216) (w : World) :
    Calls Tryz.prog 89 #[.string s] w (PaP (wayB (bl s)) w) := by
  have HB0 : Hid (Below w.heap.size w ((w.alloc (.cells #[.bool false, .slice none 0 0] 56)).alloc (.cells #[.bool false, .slice none 0 0] 56))) := ((Below.refl _ w).alloc (Nat.le_refl _) _).alloc (by simp) _
  have HR0 : Hid (((w.alloc (.cells #[.bool false, .slice none 0 0] 56)).alloc (.cells #[.bool false, .slice none 0 0] 56)).heap[w.heap.size]? = some (.cells #[.bool false, .slice none 0 0] 56 (0, 0))) := (Below.heap_alloc _ _ _ (by simp)).trans (heap_alloc_new w _)
  have HP0 : Hid (((w.alloc (.cells #[.bool false, .slice none 0 0] 56)).alloc (.cells #[.bool false, .slice none 0 0] 56)).heap[w.heap.size + 1]? = some (.cells #[.bool false, .slice none 0 0] 56 (0, 0))) := by unfold Hid; have := heap_alloc_new (w.alloc (.cells #[.bool false, .slice none 0 0] 56)) (.cells #[.bool false, .slice none 0 0] 56); simpa using this
  have HZ0 : Hid (w.heap.size + 2 ≤ ((w.alloc (.cells #[.bool false, .slice none 0 0] 56)).alloc (.cells #[.bool false, .slice none 0 0] 56)).heap.size) := by unfold Hid; simp
  by_cases h0 : s.size = 0
  · have he : s.toList.isEmpty = true := by rw [size0 s h0, ByteArray.toList_eq]; rfl
    have he2 : (s.toList == [46]) = false := by rw [size0 s h0, ByteArray.toList_eq]; rfl
    have HW : Hid (wayB (bl s) = none) := by unfold Hid; rw [size0 s h0]; rfl
    clear h0
    go_enter Tryz.func89, Tryz.ntmps89
    go_upto_region 2 with (fail)
    generalize hW0 : World.alloc (World.alloc w _) _ = W1 at *
    clear hW0 HP0
    have hr0 : W1.cell? ⟨w.heap.size, 0, none⟩ = some (.bool false) := by rw [cell_of_heap' HR0.out]; rfl
    have hr1 : W1.cell? ⟨w.heap.size, 1, none⟩ = some (.slice none 0 0) := by rw [cell_of_heap' HR0.out]; rfl
    have hrz := frozen_cells HR0.out
    go_wp2_with fail
    refine bodyPost_ret (results_way rfl rfl (two_cells HR0.out rfl _ _)) rfl ?_
    rw [HW.out]
    exact ⟨(HB0.out.setCell (p := ⟨w.heap.size, 0, none⟩) (Nat.le_refl _) _).setCell (p := ⟨w.heap.size, 1, none⟩) (Nat.le_refl _) _, rfl⟩
  have h0' : 0 < s.size := by omega
  have hne := ne_str s h0'
  have hhd := head_bl s h0'
  have hw0 := wd_drop s 0 h0'
  rw [List.drop_zero] at hw0
  have q36 : ((s[0].toNat : Int) == 36) = decide (s[0] = 36) := u8eq s[0] 36 (by decide)
  by_cases h36 : s[0] = 36
  · rw [decide_eq_true h36] at q36
    have hE : bl (s.extract 1 s.size) = (bl s).drop 1 := by
      have := ext_bl s 1 s.size (Nat.le_refl _)
      rw [this, List.take_of_length_le (by rw [List.length_drop]; show s.size - 1 ≤ _; omega)]
    have h01 : (1 : Int) ≤ (s.size : Int) := by omega
    by_cases h1 : s.size = 1
    · have he : (s.extract 1 s.size).toList.isEmpty = true := by rw [ByteArray.toList_eq]; show (bl (s.extract 1 s.size)).isEmpty = true; rw [hE, List.drop_of_length_le (show (bl s).length ≤ 1 by show s.size ≤ 1; omega)]; rfl
      have HW : Hid (wayB (bl s) = some (true, [])) := by
        unfold Hid
        rw [hw0, h36, Nat.zero_add, List.drop_of_length_le (show (bl s).length ≤ 1 by show s.size ≤ 1; omega)]; rfl
      clear h0 h1 h36 hE hhd hw0
      go_enter Tryz.func89, Tryz.ntmps89
      go_upto_region 2 with (fail)
      generalize hW0 : World.alloc (World.alloc w _) _ = W1 at *
      clear hW0
      have hp0 : W1.cell? ⟨w.heap.size + 1, 0, none⟩ = some (.bool false) := by rw [cell_of_heap' HP0.out]; rfl
      have hp1 : W1.cell? ⟨w.heap.size + 1, 1, none⟩ = some (.slice none 0 0) := by rw [cell_of_heap' HP0.out]; rfl
      have hpz := frozen_cells HP0.out
      have hr0 : W1.cell? ⟨w.heap.size, 0, none⟩ = some (.bool false) := by rw [cell_of_heap' HR0.out]; rfl
      have hr1 : W1.cell? ⟨w.heap.size, 1, none⟩ = some (.slice none 0 0) := by rw [cell_of_heap' HR0.out]; rfl
      have hrz := frozen_cells HR0.out
      have hR2 := (Below.heap_setCell W1 ⟨w.heap.size + 1, 0, none⟩ (.bool true) _ (show w.heap.size ≠ w.heap.size + 1 by omega)).trans HR0.out
      go_wp2_with fail
      refine bodyPost_ret (results_way rfl rfl (two_cells hR2 rfl _ _)) rfl ?_
      rw [HW.out]
      exact ⟨((HB0.out.setCell (p := ⟨w.heap.size + 1, 0, none⟩) (Nat.le_succ _) _).setCell (p := ⟨w.heap.size, 0, none⟩) (Nat.le_refl _) _).setCell (p := ⟨w.heap.size, 1, none⟩) (Nat.le_refl _) _, _, rfl, Strs.nil _ _⟩
    · have hS0 : 0 < (s.extract 1 s.size).size := by rw [ByteArray.size_extract]; omega
      have hSs : (s.extract 1 s.size).size ≤ 16777216 := by rw [ByteArray.size_extract]; omega
      have he : (s.extract 1 s.size).toList.isEmpty = false := ne_str _ hS0
      have HW : Hid (wayB (bl s) = paR true (bl (s.extract 1 s.size))) := by
        unfold Hid
        rw [hE]
        cases hd : (bl s).drop 1 with
        | nil => have := congrArg List.length hd; rw [List.length_drop] at this; have h2 : (bl s).length = s.size := rfl; simp at this; omega
        | cons x l =>
          rw [Nat.zero_add, hd, h36] at hw0
          rw [hw0]; exact pa_root x l
      clear h0 h1 h36 hE hhd hw0
      go_enter Tryz.func89, Tryz.ntmps89
      go_upto_region 2 with (fail)
      generalize hW0 : World.alloc (World.alloc w _) _ = W0 at *
      clear hW0
      have hp0 : W0.cell? ⟨w.heap.size + 1, 0, none⟩ = some (.bool false) := by rw [cell_of_heap' HP0.out]; rfl
      have hpz := frozen_cells HP0.out
      go_upto_region 7 with (fail)
      have HB1 : Hid (Below w.heap.size w (W0.setCell ⟨w.heap.size + 1, 0, none⟩ (.bool true))) := HB0.out.setCell (p := ⟨w.heap.size + 1, 0, none⟩) (Nat.le_succ _) _
      have HR1 : Hid ((W0.setCell ⟨w.heap.size + 1, 0, none⟩ (.bool true)).heap[w.heap.size]? = _) := (Below.heap_setCell _ _ _ _ (show w.heap.size ≠ w.heap.size + 1 by omega)).trans HR0.out
      have HP1 : Hid ((W0.setCell ⟨w.heap.size + 1, 0, none⟩ (.bool true)).heap[w.heap.size + 1]? = some (.cells #[.bool true, .slice none 0 0] 56 (0, 0))) := set_cells (j := 0) HP0.out (.bool true)
      clear hp0 hpz HB0 HR0 HP0 HZ0 he
      generalize World.setCell W0 _ _ = W1 at *
      generalize hS : s.extract 1 s.size = S at *
      have hp0 : W1.cell? ⟨w.heap.size + 1, 0, none⟩ = some (.bool true) := by rw [cell_of_heap' HP1.out]; rfl
      have hp1 : W1.cell? ⟨w.heap.size + 1, 1, none⟩ = some (.slice none 0 0) := by rw [cell_of_heap' HP1.out]; rfl
      have hr0 : W1.cell? ⟨w.heap.size, 0, none⟩ = some (.bool false) := by rw [cell_of_heap' HR1.out]; rfl
      have hr1 : W1.cell? ⟨w.heap.size, 1, none⟩ = some (.slice none 0 0) := by rw [cell_of_heap' HR1.out]; rfl
      have hrz := frozen_cells HR1.out
      have hSne := ne_str S hS0
      have hShd := Lib.hid (head_bl S hS0)
      have Q46 : ((S[0].toNat : Int) == 46) = decide (S[0] = 46) := u8eq S[0] 46 (by decide)
      have HE46 : Hid ((S.toList == [46]) = decide (bl S = [46])) := by unfold Hid; rw [ByteArray.toList_eq]; show (bl S == [46]) = _; rw [Bool.eq_iff_iff, beq_iff_eq, decide_eq_true_iff]
      by_cases hone : bl S = [46]
      · have e46 : (S.toList == [46]) = true := by rw [HE46.out]; exact decide_eq_true hone
        have HND : Hid (¬ (true = false ∧ bl S = [46])) := fun h => absurd h.1 (by decide)
        have HDT : (bl S).head? = some 46 := by rw [hone]; rfl
        have hS46 : S[0] = 46 := by have := hShd.out; rw [HDT] at this; injection this with this; exact this.symm
        rw [decide_eq_true hS46] at Q46
        have HPD := Lib.hid (pa_dot true (bl S) HND.out HDT)
        have Q46n : ((S[0].toNat : Int) != 46) = false := by simp only [bne, Q46]; rfl
        clear hone HE46 hShd hS46 HDT HND
        go_wp2_with fail
        go_loopw [5, 6, 7] (fun v5 v6 v7 wr => ∃ (f i : Nat) (oa : Option Addr) (on oc : Nat) (d : List By), v5 = .int .i64 (f : Nat) ∧ v6 = .int .i64 (i : Nat) ∧ 1 ≤ f ∧ f ≤ i ∧ i ≤ S.size + 1 ∧ d.length ≤ i ∧ Hid (wr.heap[w.heap.size]? = some (.cells #[.bool false, .slice none 0 0] 56 (0, 0))) ∧ Hid (wr.heap[w.heap.size + 1]? = some (.cells #[.bool true, .slice oa on oc] 56 (0, 0))) ∧ Hid (OutS (w.heap.size + 2) wr (.slice oa on oc) (d.map mkB)) ∧ Hid (PaI S f i d) ∧ Hid (d.all lets = true) ∧ Hid (Below w.heap.size w wr)) (fun _ i _ _ => S.size + 2 - (intOf i).toNat)
        case atStart => exact ⟨1, 1, none, 0, 0, [], rfl, rfl, Nat.le_refl _, Nat.le_refl _, by omega, Nat.zero_le _, HR1, HP1, OutS.nil _ _, ⟨fun _ => by rw [Nat.sub_self, List.take_zero, goN_nil]; rfl, fun h => by omega⟩, rfl, HB1⟩
        case round =>
          obtain ⟨f, i, oa, on, oc, d, rfl, rfl, hf1, hfi, hi, hdi, HRr, HPr, HO, HI, HAL, HB⟩ := hrel
          have hfi' : (f : Int) ≤ (i : Int) := by omega
          have hsw0 := lt_of_block HPr.out
          clear HR1 HP1 HB1
          by_cases hle : i ≤ S.size
          · have hle' : (i : Int) ≤ (S.size : Int) := by omega
            by_cases hsz : i = S.size
            · have hsz' : ((i : Int) == (S.size : Int)) = true := by rw [hsz]; exact beq_self_eq_true _
              have HD : Hid (i = S.size ∨ ∃ h : i < S.size, isDot S[i] = true) := .inl hsz
              clear hsz
              have hcur : Hid (bl (S.extract f i) = ((bl S).drop f).take (i - f)) := ext_bl S f i hle
              have LT : Hid (Calls Tryz.prog 64 #[.string (S.extract f i)] wr fun e w' => e = .returned (.bool (lets (bl (S.extract f i)))) ∧ wr = w') := lettersR_calls (S.extract f i) (by rw [ByteArray.size_extract]; omega) wr
              cases hlt : lets (bl (S.extract f i)) with
              | false =>
                rw [hlt] at LT
                have HNO : Hid (wayB (bl s) = none) := by
                  unfold Hid
                  rw [HW.out, HPD.out, if_neg]
                  intro h
                  have := List.all_eq_true.1 h _ (pa_cur HI.out hle HD.out)
                  rw [← hcur.out, hlt] at this
                  cases this
                have r0 : wr.cell? ⟨w.heap.size, 0, none⟩ = some (.bool false) := by rw [cell_of_heap' HRr.out]; rfl
                have r1 : wr.cell? ⟨w.heap.size, 1, none⟩ = some (.slice none 0 0) := by rw [cell_of_heap' HRr.out]; rfl
                have rz := frozen_cells HRr.out
                clear hlt HD HI HAL HO HPr
                go_wp2_with (go_at_call 64; refine LT.out.mono ?_; rintro e w' ⟨rfl, rfl⟩)
                refine bodyPost_ret (results_way rfl rfl (two_cells HRr.out rfl _ _)) rfl ?_
                rw [HNO.out]
                exact ⟨(HB.out.setCell (p := ⟨w.heap.size, 0, none⟩) (Nat.le_refl _) _).setCell (p := ⟨w.heap.size, 1, none⟩) (Nat.le_refl _) _, rfl⟩
              | true =>
                rw [hlt] at LT
                have HI2 : Hid (PaI S (i + 1) (i + 1) (d ++ [bl (S.extract f i)])) := by unfold Hid; rw [hcur.out]; exact pa_put HI.out hle HD.out
                have HAL2 : Hid ((d ++ [bl (S.extract f i)]).all lets = true) := by unfold Hid; rw [List.all_append, HAL.out]; simp [hlt]
                have hA : Below wr.heap.size wr (wr.alloc (.cells #[.string (S.extract f i)] 9)) := (Below.refl _ wr).alloc (Nat.le_refl _) _
                have hOA := HO.out.below hA
                have hTA := heap_alloc_new wr (.cells #[.string (S.extract f i)] 9)
                have hdl : (d.map mkB).length ≤ 16777216 := by rw [List.length_map]; omega
                have hZA : w.heap.size + 2 ≤ (wr.alloc (.cells #[.string (S.extract f i)] 9)).heap.size := by simp; omega
                have hPl := lt_of_block HPr.out
                have hPA := (Below.heap_alloc wr (.cells #[.string (S.extract f i)] 9) _ hPl).trans HPr.out
                have hRA := (Below.heap_alloc wr (.cells #[.string (S.extract f i)] 9) _ (lt_of_block HRr.out)).trans HRr.out
                have x1 : wr.cell? ⟨w.heap.size + 1, 1, none⟩ = some (.slice oa on oc) := by rw [cell_of_heap' HPr.out]; rfl
                have x1a : ∀ o, (wr.alloc o).cell? ⟨w.heap.size + 1, 1, none⟩ = some (.slice oa on oc) := fun o => (World.cell?_alloc_old wr _ _ (Nat.ne_of_lt hPl)).trans x1
                have hmk : Hid ((d ++ [bl (S.extract f i)]).map mkB = d.map mkB ++ [S.extract f i]) := by unfold Hid; rw [List.map_append, List.map_singleton, mkB_bl]
                have hsw := HB.out.size
                clear hlt HD HI HAL
                go_upto_region 19 with (go_at_call 64; refine LT.out.mono ?_; rintro e w' ⟨rfl, rfl⟩)
                go_region_law (refine step_app_txt (by rfl) _ _ (by rfl) (w.heap.size + 2) (.slice oa on oc) (d.map mkB) (by rfl) (by exact hOA) (S.extract f i) wr.heap.size _ (by rfl) _ _ (by exact hTA) hdl hZA ?_; intro v1 w1 hv1 hb1 hgr1 hat1; obtain ⟨a1, n1, c1, rfl⟩ := hv1.slice; have hP1 := (hb1.block _ (by omega)).trans hPA; have hR1 := (hb1.block _ (by omega)).trans hRA; have s1 : w1.cell? ⟨w.heap.size + 1, 1, none⟩ = some (.slice oa on oc) := (by rw [cell_of_heap' hP1]; rfl); have z1 := frozen_cells hP1 1)
                all_goals
                  have HRn : Hid ((w1.setCell ⟨w.heap.size + 1, 1, none⟩ (.slice a1 n1 c1)).heap[w.heap.size]? = _) := (Below.heap_setCell _ _ _ _ (show w.heap.size ≠ w.heap.size + 1 by omega)).trans hR1
                  have HPn : Hid ((w1.setCell ⟨w.heap.size + 1, 1, none⟩ (.slice a1 n1 c1)).heap[w.heap.size + 1]? = _) := set_cells (j := 1) hP1 (.slice a1 n1 c1)
                  have HOn : Hid (OutS (w.heap.size + 2) (w1.setCell ⟨w.heap.size + 1, 1, none⟩ (.slice a1 n1 c1)) (.slice a1 n1 c1) ((d ++ [bl (S.extract f i)]).map mkB)) := by unfold Hid; rw [hmk.out]; exact hv1.set (by omega)
                  have HBn : Hid (Below w.heap.size w (w1.setCell ⟨w.heap.size + 1, 1, none⟩ (.slice a1 n1 c1))) := (((HB.out.trans (hA.mono hsw)).trans ((Sl.drew _).below _)).trans (hb1.mono (Nat.le_add_right _ 2))).setCell (p := ⟨w.heap.size + 1, 1, none⟩) (Nat.le_succ _) _
                  clear hv1 hb1 hgr1 hat1 hP1 hR1 s1 z1 hOA hTA hPA hRA
                  go_wp2_with fail
                  exact ⟨⟨i + 1, i + 1, a1, n1, c1, d ++ [bl (S.extract f i)], by go_num, by go_num, by omega, by omega, by omega, by rw [List.length_append, List.length_singleton]; omega, HRn, HPn, HOn, HI2, HAL2, HBn⟩, by simp [intOf]; omega⟩
            · have hlt : i < S.size := by omega
              have hsz' : ((i : Int) == (S.size : Int)) = false := beq_eq_false_iff_ne.2 (by omega)
              have q46 : ((S[i].toNat : Int) == 46) = decide (S[i] = 46) := u8eq S[i] 46 (by decide)
              clear hsz
              by_cases hdt : S[i] = 46
              · rw [decide_eq_true hdt] at q46
                have HD : Hid (i = S.size ∨ ∃ h : i < S.size, isDot S[i] = true) := .inr ⟨hlt, by rw [hdt]; rfl⟩
                clear hdt
                have hcur : Hid (bl (S.extract f i) = ((bl S).drop f).take (i - f)) := ext_bl S f i hle
                have LT : Hid (Calls Tryz.prog 64 #[.string (S.extract f i)] wr fun e w' => e = .returned (.bool (lets (bl (S.extract f i)))) ∧ wr = w') := lettersR_calls (S.extract f i) (by rw [ByteArray.size_extract]; omega) wr
                cases hlt : lets (bl (S.extract f i)) with
                | false =>
                  rw [hlt] at LT
                  have HNO : Hid (wayB (bl s) = none) := by
                    unfold Hid
                    rw [HW.out, HPD.out, if_neg]
                    intro h
                    have := List.all_eq_true.1 h _ (pa_cur HI.out hle HD.out)
                    rw [← hcur.out, hlt] at this
                    cases this
                  have r0 : wr.cell? ⟨w.heap.size, 0, none⟩ = some (.bool false) := by rw [cell_of_heap' HRr.out]; rfl
                  have r1 : wr.cell? ⟨w.heap.size, 1, none⟩ = some (.slice none 0 0) := by rw [cell_of_heap' HRr.out]; rfl
                  have rz := frozen_cells HRr.out
                  clear hlt HD HI HAL HO HPr
                  go_wp2_with (go_at_call 64; refine LT.out.mono ?_; rintro e w' ⟨rfl, rfl⟩)
                  refine bodyPost_ret (results_way rfl rfl (two_cells HRr.out rfl _ _)) rfl ?_
                  rw [HNO.out]
                  exact ⟨(HB.out.setCell (p := ⟨w.heap.size, 0, none⟩) (Nat.le_refl _) _).setCell (p := ⟨w.heap.size, 1, none⟩) (Nat.le_refl _) _, rfl⟩
                | true =>
                  rw [hlt] at LT
                  have HI2 : Hid (PaI S (i + 1) (i + 1) (d ++ [bl (S.extract f i)])) := by unfold Hid; rw [hcur.out]; exact pa_put HI.out hle HD.out
                  have HAL2 : Hid ((d ++ [bl (S.extract f i)]).all lets = true) := by unfold Hid; rw [List.all_append, HAL.out]; simp [hlt]
                  have hA : Below wr.heap.size wr (wr.alloc (.cells #[.string (S.extract f i)] 9)) := (Below.refl _ wr).alloc (Nat.le_refl _) _
                  have hOA := HO.out.below hA
                  have hTA := heap_alloc_new wr (.cells #[.string (S.extract f i)] 9)
                  have hdl : (d.map mkB).length ≤ 16777216 := by rw [List.length_map]; omega
                  have hZA : w.heap.size + 2 ≤ (wr.alloc (.cells #[.string (S.extract f i)] 9)).heap.size := by simp; omega
                  have hPl := lt_of_block HPr.out
                  have hPA := (Below.heap_alloc wr (.cells #[.string (S.extract f i)] 9) _ hPl).trans HPr.out
                  have hRA := (Below.heap_alloc wr (.cells #[.string (S.extract f i)] 9) _ (lt_of_block HRr.out)).trans HRr.out
                  have x1 : wr.cell? ⟨w.heap.size + 1, 1, none⟩ = some (.slice oa on oc) := by rw [cell_of_heap' HPr.out]; rfl
                  have x1a : ∀ o, (wr.alloc o).cell? ⟨w.heap.size + 1, 1, none⟩ = some (.slice oa on oc) := fun o => (World.cell?_alloc_old wr _ _ (Nat.ne_of_lt hPl)).trans x1
                  have hmk : Hid ((d ++ [bl (S.extract f i)]).map mkB = d.map mkB ++ [S.extract f i]) := by unfold Hid; rw [List.map_append, List.map_singleton, mkB_bl]
                  have hsw := HB.out.size
                  clear hlt HD HI HAL
                  go_upto_region 19 with (go_at_call 64; refine LT.out.mono ?_; rintro e w' ⟨rfl, rfl⟩)
                  go_region_law (refine step_app_txt (by rfl) _ _ (by rfl) (w.heap.size + 2) (.slice oa on oc) (d.map mkB) (by rfl) (by exact hOA) (S.extract f i) wr.heap.size _ (by rfl) _ _ (by exact hTA) hdl hZA ?_; intro v1 w1 hv1 hb1 hgr1 hat1; obtain ⟨a1, n1, c1, rfl⟩ := hv1.slice; have hP1 := (hb1.block _ (by omega)).trans hPA; have hR1 := (hb1.block _ (by omega)).trans hRA; have s1 : w1.cell? ⟨w.heap.size + 1, 1, none⟩ = some (.slice oa on oc) := (by rw [cell_of_heap' hP1]; rfl); have z1 := frozen_cells hP1 1)
                  all_goals
                    have HRn : Hid ((w1.setCell ⟨w.heap.size + 1, 1, none⟩ (.slice a1 n1 c1)).heap[w.heap.size]? = _) := (Below.heap_setCell _ _ _ _ (show w.heap.size ≠ w.heap.size + 1 by omega)).trans hR1
                    have HPn : Hid ((w1.setCell ⟨w.heap.size + 1, 1, none⟩ (.slice a1 n1 c1)).heap[w.heap.size + 1]? = _) := set_cells (j := 1) hP1 (.slice a1 n1 c1)
                    have HOn : Hid (OutS (w.heap.size + 2) (w1.setCell ⟨w.heap.size + 1, 1, none⟩ (.slice a1 n1 c1)) (.slice a1 n1 c1) ((d ++ [bl (S.extract f i)]).map mkB)) := by unfold Hid; rw [hmk.out]; exact hv1.set (by omega)
                    have HBn : Hid (Below w.heap.size w (w1.setCell ⟨w.heap.size + 1, 1, none⟩ (.slice a1 n1 c1))) := (((HB.out.trans (hA.mono hsw)).trans ((Sl.drew _).below _)).trans (hb1.mono (Nat.le_add_right _ 2))).setCell (p := ⟨w.heap.size + 1, 1, none⟩) (Nat.le_succ _) _
                    clear hv1 hb1 hgr1 hat1 hP1 hR1 s1 z1 hOA hTA hPA hRA
                    go_wp2_with fail
                    exact ⟨⟨i + 1, i + 1, a1, n1, c1, d ++ [bl (S.extract f i)], by go_num, by go_num, by omega, by omega, by omega, by rw [List.length_append, List.length_singleton]; omega, HRn, HPn, HOn, HI2, HAL2, HBn⟩, by simp [intOf]; omega⟩
              · rw [decide_eq_false hdt] at q46
                have HI2 : Hid (PaI S f (i + 1) d) := pa_on HI.out hfi hlt (beq_eq_false_iff_ne.2 hdt)
                clear hdt HI
                go_wp2_with fail
                exact ⟨⟨f, i + 1, oa, on, oc, d, rfl, by go_num, by omega, by omega, by omega, by omega, HRr, HPr, HO, HI2, HAL, HB⟩, by simp [intOf]; omega⟩
          · have hle' : ¬ (i : Int) ≤ (S.size : Int) := by omega
            have HDE : Hid (d = splitP isDot ((bl S).drop 1)) := HI.out.2 (by omega)
            have HYES : Hid (wayB (bl s) = some (true, d)) := by
              unfold Hid
              rw [HW.out, HPD.out, if_pos (by rw [← HDE.out]; exact HAL.out), HDE.out]
            have r0 : wr.cell? ⟨w.heap.size, 0, none⟩ = some (.bool false) := by rw [cell_of_heap' HRr.out]; rfl
            have r1 : wr.cell? ⟨w.heap.size, 1, none⟩ = some (.slice none 0 0) := by rw [cell_of_heap' HRr.out]; rfl
            have rz := frozen_cells HRr.out
            have x0 : wr.cell? ⟨w.heap.size + 1, 0, none⟩ = some (.bool true) := by rw [cell_of_heap' HPr.out]; rfl
            have x1 : wr.cell? ⟨w.heap.size + 1, 1, none⟩ = some (.slice oa on oc) := by rw [cell_of_heap' HPr.out]; rfl
            clear hle HI HAL HDE
            go_wp2_with fail
            refine bodyPost_ret (results_way rfl rfl (two_cells HRr.out rfl _ _)) rfl ?_
            rw [HYES.out]
            refine ⟨(HB.out.setCell (p := ⟨w.heap.size, 0, none⟩) (Nat.le_refl _) _).setCell (p := ⟨w.heap.size, 1, none⟩) (Nat.le_refl _) _, _, rfl, ?_⟩
            have hO2 := (HO.out.set (j := 0) (u := .bool true) (show w.heap.size < w.heap.size + 2 by omega)).set (j := 1) (u := .slice oa on oc) (show w.heap.size < w.heap.size + 2 by omega)
            exact hO2.strs.mono (fun b hb => ⟨by have := hb.1; omega, hb.2⟩)
      · have e46 : (S.toList == [46]) = false := by rw [HE46.out]; exact decide_eq_false hone
        have HND : Hid (¬ (true = false ∧ bl S = [46])) := fun h => hone h.2
        by_cases hS46 : S[0] = 46
        · rw [decide_eq_true hS46] at Q46
          have HDT : (bl S).head? = some 46 := by rw [hShd.out, hS46]
          have HPD := Lib.hid (pa_dot true (bl S) HND.out HDT)
          have Q46n : ((S[0].toNat : Int) != 46) = false := by simp only [bne, Q46]; rfl
          clear hone HE46 hShd hS46 HDT HND
          go_wp2_with fail
          go_loopw [5, 6, 7] (fun v5 v6 v7 wr => ∃ (f i : Nat) (oa : Option Addr) (on oc : Nat) (d : List By), v5 = .int .i64 (f : Nat) ∧ v6 = .int .i64 (i : Nat) ∧ 1 ≤ f ∧ f ≤ i ∧ i ≤ S.size + 1 ∧ d.length ≤ i ∧ Hid (wr.heap[w.heap.size]? = some (.cells #[.bool false, .slice none 0 0] 56 (0, 0))) ∧ Hid (wr.heap[w.heap.size + 1]? = some (.cells #[.bool true, .slice oa on oc] 56 (0, 0))) ∧ Hid (OutS (w.heap.size + 2) wr (.slice oa on oc) (d.map mkB)) ∧ Hid (PaI S f i d) ∧ Hid (d.all lets = true) ∧ Hid (Below w.heap.size w wr)) (fun _ i _ _ => S.size + 2 - (intOf i).toNat)
          case atStart => exact ⟨1, 1, none, 0, 0, [], rfl, rfl, Nat.le_refl _, Nat.le_refl _, by omega, Nat.zero_le _, HR1, HP1, OutS.nil _ _, ⟨fun _ => by rw [Nat.sub_self, List.take_zero, goN_nil]; rfl, fun h => by omega⟩, rfl, HB1⟩
          case round =>
            obtain ⟨f, i, oa, on, oc, d, rfl, rfl, hf1, hfi, hi, hdi, HRr, HPr, HO, HI, HAL, HB⟩ := hrel
            have hfi' : (f : Int) ≤ (i : Int) := by omega
            have hsw0 := lt_of_block HPr.out
            clear HR1 HP1 HB1
            by_cases hle : i ≤ S.size
            · have hle' : (i : Int) ≤ (S.size : Int) := by omega
              by_cases hsz : i = S.size
              · have hsz' : ((i : Int) == (S.size : Int)) = true := by rw [hsz]; exact beq_self_eq_true _
                have HD : Hid (i = S.size ∨ ∃ h : i < S.size, isDot S[i] = true) := .inl hsz
                clear hsz
                have hcur : Hid (bl (S.extract f i) = ((bl S).drop f).take (i - f)) := ext_bl S f i hle
                have LT : Hid (Calls Tryz.prog 64 #[.string (S.extract f i)] wr fun e w' => e = .returned (.bool (lets (bl (S.extract f i)))) ∧ wr = w') := lettersR_calls (S.extract f i) (by rw [ByteArray.size_extract]; omega) wr
                cases hlt : lets (bl (S.extract f i)) with
                | false =>
                  rw [hlt] at LT
                  have HNO : Hid (wayB (bl s) = none) := by
                    unfold Hid
                    rw [HW.out, HPD.out, if_neg]
                    intro h
                    have := List.all_eq_true.1 h _ (pa_cur HI.out hle HD.out)
                    rw [← hcur.out, hlt] at this
                    cases this
                  have r0 : wr.cell? ⟨w.heap.size, 0, none⟩ = some (.bool false) := by rw [cell_of_heap' HRr.out]; rfl
                  have r1 : wr.cell? ⟨w.heap.size, 1, none⟩ = some (.slice none 0 0) := by rw [cell_of_heap' HRr.out]; rfl
                  have rz := frozen_cells HRr.out
                  clear hlt HD HI HAL HO HPr
                  go_wp2_with (go_at_call 64; refine LT.out.mono ?_; rintro e w' ⟨rfl, rfl⟩)
                  refine bodyPost_ret (results_way rfl rfl (two_cells HRr.out rfl _ _)) rfl ?_
                  rw [HNO.out]
                  exact ⟨(HB.out.setCell (p := ⟨w.heap.size, 0, none⟩) (Nat.le_refl _) _).setCell (p := ⟨w.heap.size, 1, none⟩) (Nat.le_refl _) _, rfl⟩
                | true =>
                  rw [hlt] at LT
                  have HI2 : Hid (PaI S (i + 1) (i + 1) (d ++ [bl (S.extract f i)])) := by unfold Hid; rw [hcur.out]; exact pa_put HI.out hle HD.out
                  have HAL2 : Hid ((d ++ [bl (S.extract f i)]).all lets = true) := by unfold Hid; rw [List.all_append, HAL.out]; simp [hlt]
                  have hA : Below wr.heap.size wr (wr.alloc (.cells #[.string (S.extract f i)] 9)) := (Below.refl _ wr).alloc (Nat.le_refl _) _
                  have hOA := HO.out.below hA
                  have hTA := heap_alloc_new wr (.cells #[.string (S.extract f i)] 9)
                  have hdl : (d.map mkB).length ≤ 16777216 := by rw [List.length_map]; omega
                  have hZA : w.heap.size + 2 ≤ (wr.alloc (.cells #[.string (S.extract f i)] 9)).heap.size := by simp; omega
                  have hPl := lt_of_block HPr.out
                  have hPA := (Below.heap_alloc wr (.cells #[.string (S.extract f i)] 9) _ hPl).trans HPr.out
                  have hRA := (Below.heap_alloc wr (.cells #[.string (S.extract f i)] 9) _ (lt_of_block HRr.out)).trans HRr.out
                  have x1 : wr.cell? ⟨w.heap.size + 1, 1, none⟩ = some (.slice oa on oc) := by rw [cell_of_heap' HPr.out]; rfl
                  have x1a : ∀ o, (wr.alloc o).cell? ⟨w.heap.size + 1, 1, none⟩ = some (.slice oa on oc) := fun o => (World.cell?_alloc_old wr _ _ (Nat.ne_of_lt hPl)).trans x1
                  have hmk : Hid ((d ++ [bl (S.extract f i)]).map mkB = d.map mkB ++ [S.extract f i]) := by unfold Hid; rw [List.map_append, List.map_singleton, mkB_bl]
                  have hsw := HB.out.size
                  clear hlt HD HI HAL
                  go_upto_region 19 with (go_at_call 64; refine LT.out.mono ?_; rintro e w' ⟨rfl, rfl⟩)
                  go_region_law (refine step_app_txt (by rfl) _ _ (by rfl) (w.heap.size + 2) (.slice oa on oc) (d.map mkB) (by rfl) (by exact hOA) (S.extract f i) wr.heap.size _ (by rfl) _ _ (by exact hTA) hdl hZA ?_; intro v1 w1 hv1 hb1 hgr1 hat1; obtain ⟨a1, n1, c1, rfl⟩ := hv1.slice; have hP1 := (hb1.block _ (by omega)).trans hPA; have hR1 := (hb1.block _ (by omega)).trans hRA; have s1 : w1.cell? ⟨w.heap.size + 1, 1, none⟩ = some (.slice oa on oc) := (by rw [cell_of_heap' hP1]; rfl); have z1 := frozen_cells hP1 1)
                  all_goals
                    have HRn : Hid ((w1.setCell ⟨w.heap.size + 1, 1, none⟩ (.slice a1 n1 c1)).heap[w.heap.size]? = _) := (Below.heap_setCell _ _ _ _ (show w.heap.size ≠ w.heap.size + 1 by omega)).trans hR1
                    have HPn : Hid ((w1.setCell ⟨w.heap.size + 1, 1, none⟩ (.slice a1 n1 c1)).heap[w.heap.size + 1]? = _) := set_cells (j := 1) hP1 (.slice a1 n1 c1)
                    have HOn : Hid (OutS (w.heap.size + 2) (w1.setCell ⟨w.heap.size + 1, 1, none⟩ (.slice a1 n1 c1)) (.slice a1 n1 c1) ((d ++ [bl (S.extract f i)]).map mkB)) := by unfold Hid; rw [hmk.out]; exact hv1.set (by omega)
                    have HBn : Hid (Below w.heap.size w (w1.setCell ⟨w.heap.size + 1, 1, none⟩ (.slice a1 n1 c1))) := (((HB.out.trans (hA.mono hsw)).trans ((Sl.drew _).below _)).trans (hb1.mono (Nat.le_add_right _ 2))).setCell (p := ⟨w.heap.size + 1, 1, none⟩) (Nat.le_succ _) _
                    clear hv1 hb1 hgr1 hat1 hP1 hR1 s1 z1 hOA hTA hPA hRA
                    go_wp2_with fail
                    exact ⟨⟨i + 1, i + 1, a1, n1, c1, d ++ [bl (S.extract f i)], by go_num, by go_num, by omega, by omega, by omega, by rw [List.length_append, List.length_singleton]; omega, HRn, HPn, HOn, HI2, HAL2, HBn⟩, by simp [intOf]; omega⟩
              · have hlt : i < S.size := by omega
                have hsz' : ((i : Int) == (S.size : Int)) = false := beq_eq_false_iff_ne.2 (by omega)
                have q46 : ((S[i].toNat : Int) == 46) = decide (S[i] = 46) := u8eq S[i] 46 (by decide)
                clear hsz
                by_cases hdt : S[i] = 46
                · rw [decide_eq_true hdt] at q46
                  have HD : Hid (i = S.size ∨ ∃ h : i < S.size, isDot S[i] = true) := .inr ⟨hlt, by rw [hdt]; rfl⟩
                  clear hdt
                  have hcur : Hid (bl (S.extract f i) = ((bl S).drop f).take (i - f)) := ext_bl S f i hle
                  have LT : Hid (Calls Tryz.prog 64 #[.string (S.extract f i)] wr fun e w' => e = .returned (.bool (lets (bl (S.extract f i)))) ∧ wr = w') := lettersR_calls (S.extract f i) (by rw [ByteArray.size_extract]; omega) wr
                  cases hlt : lets (bl (S.extract f i)) with
                  | false =>
                    rw [hlt] at LT
                    have HNO : Hid (wayB (bl s) = none) := by
                      unfold Hid
                      rw [HW.out, HPD.out, if_neg]
                      intro h
                      have := List.all_eq_true.1 h _ (pa_cur HI.out hle HD.out)
                      rw [← hcur.out, hlt] at this
                      cases this
                    have r0 : wr.cell? ⟨w.heap.size, 0, none⟩ = some (.bool false) := by rw [cell_of_heap' HRr.out]; rfl
                    have r1 : wr.cell? ⟨w.heap.size, 1, none⟩ = some (.slice none 0 0) := by rw [cell_of_heap' HRr.out]; rfl
                    have rz := frozen_cells HRr.out
                    clear hlt HD HI HAL HO HPr
                    go_wp2_with (go_at_call 64; refine LT.out.mono ?_; rintro e w' ⟨rfl, rfl⟩)
                    refine bodyPost_ret (results_way rfl rfl (two_cells HRr.out rfl _ _)) rfl ?_
                    rw [HNO.out]
                    exact ⟨(HB.out.setCell (p := ⟨w.heap.size, 0, none⟩) (Nat.le_refl _) _).setCell (p := ⟨w.heap.size, 1, none⟩) (Nat.le_refl _) _, rfl⟩
                  | true =>
                    rw [hlt] at LT
                    have HI2 : Hid (PaI S (i + 1) (i + 1) (d ++ [bl (S.extract f i)])) := by unfold Hid; rw [hcur.out]; exact pa_put HI.out hle HD.out
                    have HAL2 : Hid ((d ++ [bl (S.extract f i)]).all lets = true) := by unfold Hid; rw [List.all_append, HAL.out]; simp [hlt]
                    have hA : Below wr.heap.size wr (wr.alloc (.cells #[.string (S.extract f i)] 9)) := (Below.refl _ wr).alloc (Nat.le_refl _) _
                    have hOA := HO.out.below hA
                    have hTA := heap_alloc_new wr (.cells #[.string (S.extract f i)] 9)
                    have hdl : (d.map mkB).length ≤ 16777216 := by rw [List.length_map]; omega
                    have hZA : w.heap.size + 2 ≤ (wr.alloc (.cells #[.string (S.extract f i)] 9)).heap.size := by simp; omega
                    have hPl := lt_of_block HPr.out
                    have hPA := (Below.heap_alloc wr (.cells #[.string (S.extract f i)] 9) _ hPl).trans HPr.out
                    have hRA := (Below.heap_alloc wr (.cells #[.string (S.extract f i)] 9) _ (lt_of_block HRr.out)).trans HRr.out
                    have x1 : wr.cell? ⟨w.heap.size + 1, 1, none⟩ = some (.slice oa on oc) := by rw [cell_of_heap' HPr.out]; rfl
                    have x1a : ∀ o, (wr.alloc o).cell? ⟨w.heap.size + 1, 1, none⟩ = some (.slice oa on oc) := fun o => (World.cell?_alloc_old wr _ _ (Nat.ne_of_lt hPl)).trans x1
                    have hmk : Hid ((d ++ [bl (S.extract f i)]).map mkB = d.map mkB ++ [S.extract f i]) := by unfold Hid; rw [List.map_append, List.map_singleton, mkB_bl]
                    have hsw := HB.out.size
                    clear hlt HD HI HAL
                    go_upto_region 19 with (go_at_call 64; refine LT.out.mono ?_; rintro e w' ⟨rfl, rfl⟩)
                    go_region_law (refine step_app_txt (by rfl) _ _ (by rfl) (w.heap.size + 2) (.slice oa on oc) (d.map mkB) (by rfl) (by exact hOA) (S.extract f i) wr.heap.size _ (by rfl) _ _ (by exact hTA) hdl hZA ?_; intro v1 w1 hv1 hb1 hgr1 hat1; obtain ⟨a1, n1, c1, rfl⟩ := hv1.slice; have hP1 := (hb1.block _ (by omega)).trans hPA; have hR1 := (hb1.block _ (by omega)).trans hRA; have s1 : w1.cell? ⟨w.heap.size + 1, 1, none⟩ = some (.slice oa on oc) := (by rw [cell_of_heap' hP1]; rfl); have z1 := frozen_cells hP1 1)
                    all_goals
                      have HRn : Hid ((w1.setCell ⟨w.heap.size + 1, 1, none⟩ (.slice a1 n1 c1)).heap[w.heap.size]? = _) := (Below.heap_setCell _ _ _ _ (show w.heap.size ≠ w.heap.size + 1 by omega)).trans hR1
                      have HPn : Hid ((w1.setCell ⟨w.heap.size + 1, 1, none⟩ (.slice a1 n1 c1)).heap[w.heap.size + 1]? = _) := set_cells (j := 1) hP1 (.slice a1 n1 c1)
                      have HOn : Hid (OutS (w.heap.size + 2) (w1.setCell ⟨w.heap.size + 1, 1, none⟩ (.slice a1 n1 c1)) (.slice a1 n1 c1) ((d ++ [bl (S.extract f i)]).map mkB)) := by unfold Hid; rw [hmk.out]; exact hv1.set (by omega)
                      have HBn : Hid (Below w.heap.size w (w1.setCell ⟨w.heap.size + 1, 1, none⟩ (.slice a1 n1 c1))) := (((HB.out.trans (hA.mono hsw)).trans ((Sl.drew _).below _)).trans (hb1.mono (Nat.le_add_right _ 2))).setCell (p := ⟨w.heap.size + 1, 1, none⟩) (Nat.le_succ _) _
                      clear hv1 hb1 hgr1 hat1 hP1 hR1 s1 z1 hOA hTA hPA hRA
                      go_wp2_with fail
                      exact ⟨⟨i + 1, i + 1, a1, n1, c1, d ++ [bl (S.extract f i)], by go_num, by go_num, by omega, by omega, by omega, by rw [List.length_append, List.length_singleton]; omega, HRn, HPn, HOn, HI2, HAL2, HBn⟩, by simp [intOf]; omega⟩
                · rw [decide_eq_false hdt] at q46
                  have HI2 : Hid (PaI S f (i + 1) d) := pa_on HI.out hfi hlt (beq_eq_false_iff_ne.2 hdt)
                  clear hdt HI
                  go_wp2_with fail
                  exact ⟨⟨f, i + 1, oa, on, oc, d, rfl, by go_num, by omega, by omega, by omega, by omega, HRr, HPr, HO, HI2, HAL, HB⟩, by simp [intOf]; omega⟩
            · have hle' : ¬ (i : Int) ≤ (S.size : Int) := by omega
              have HDE : Hid (d = splitP isDot ((bl S).drop 1)) := HI.out.2 (by omega)
              have HYES : Hid (wayB (bl s) = some (true, d)) := by
                unfold Hid
                rw [HW.out, HPD.out, if_pos (by rw [← HDE.out]; exact HAL.out), HDE.out]
              have r0 : wr.cell? ⟨w.heap.size, 0, none⟩ = some (.bool false) := by rw [cell_of_heap' HRr.out]; rfl
              have r1 : wr.cell? ⟨w.heap.size, 1, none⟩ = some (.slice none 0 0) := by rw [cell_of_heap' HRr.out]; rfl
              have rz := frozen_cells HRr.out
              have x0 : wr.cell? ⟨w.heap.size + 1, 0, none⟩ = some (.bool true) := by rw [cell_of_heap' HPr.out]; rfl
              have x1 : wr.cell? ⟨w.heap.size + 1, 1, none⟩ = some (.slice oa on oc) := by rw [cell_of_heap' HPr.out]; rfl
              clear hle HI HAL HDE
              go_wp2_with fail
              refine bodyPost_ret (results_way rfl rfl (two_cells HRr.out rfl _ _)) rfl ?_
              rw [HYES.out]
              refine ⟨(HB.out.setCell (p := ⟨w.heap.size, 0, none⟩) (Nat.le_refl _) _).setCell (p := ⟨w.heap.size, 1, none⟩) (Nat.le_refl _) _, _, rfl, ?_⟩
              have hO2 := (HO.out.set (j := 0) (u := .bool true) (show w.heap.size < w.heap.size + 2 by omega)).set (j := 1) (u := .slice oa on oc) (show w.heap.size < w.heap.size + 2 by omega)
              exact hO2.strs.mono (fun b hb => ⟨by have := hb.1; omega, hb.2⟩)
        · rw [decide_eq_false hS46] at Q46
          have HNO : Hid (wayB (bl s) = none) := by unfold Hid; rw [HW.out]; exact pa_not true (bl S) HND.out (by rw [hShd.out]; intro h; exact hS46 (Option.some.inj h))
          have Q46n : ((S[0].toNat : Int) != 46) = true := by simp only [bne, Q46]; rfl
          clear hone HE46 hShd hS46 HND
          go_wp2_with fail
          refine bodyPost_ret (results_way rfl rfl (two_cells HR1.out rfl _ _)) rfl ?_
          rw [HNO.out]
          exact ⟨(HB1.out.setCell (p := ⟨w.heap.size, 0, none⟩) (Nat.le_refl _) _).setCell (p := ⟨w.heap.size, 1, none⟩) (Nat.le_refl _) _, rfl⟩
  · rw [decide_eq_false h36] at q36
    have HW : Hid (wayB (bl s) = paR false (bl s)) := pa_plain _ (by rw [hhd]; intro h; exact h36 (Option.some.inj h))
    clear h36 hhd hw0 h0
    go_enter Tryz.func89, Tryz.ntmps89
    go_upto_region 2 with (fail)
    generalize hW0 : World.alloc (World.alloc w _) _ = W1 at *
    clear hW0
    go_upto_region 7 with (fail)
    have HB1 := HB0
    have HR1 := HR0
    have HP1 := HP0
    have hS0 := h0'
    have hSs := hs
    clear HB0 HR0 HP0 HZ0 hs
    have hp0 : W1.cell? ⟨w.heap.size + 1, 0, none⟩ = some (.bool false) := by rw [cell_of_heap' HP1.out]; rfl
    have hp1 : W1.cell? ⟨w.heap.size + 1, 1, none⟩ = some (.slice none 0 0) := by rw [cell_of_heap' HP1.out]; rfl
    have hr0 : W1.cell? ⟨w.heap.size, 0, none⟩ = some (.bool false) := by rw [cell_of_heap' HR1.out]; rfl
    have hr1 : W1.cell? ⟨w.heap.size, 1, none⟩ = some (.slice none 0 0) := by rw [cell_of_heap' HR1.out]; rfl
    have hrz := frozen_cells HR1.out
    have hSne := ne_str s hS0
    have hShd := Lib.hid (head_bl s hS0)
    have Q46 : ((s[0].toNat : Int) == 46) = decide (s[0] = 46) := u8eq s[0] 46 (by decide)
    have HE46 : Hid ((s.toList == [46]) = decide (bl s = [46])) := by unfold Hid; rw [ByteArray.toList_eq]; show (bl s == [46]) = _; rw [Bool.eq_iff_iff, beq_iff_eq, decide_eq_true_iff]
    by_cases hone : bl s = [46]
    · have e46 : (s.toList == [46]) = true := by rw [HE46.out]; exact decide_eq_true hone
      have HYES : Hid (wayB (bl s) = some (false, [])) := by unfold Hid; rw [HW.out]; exact if_pos ⟨rfl, hone⟩
      clear hone HE46 Q46 hShd
      go_wp2_with fail
      refine bodyPost_ret (results_way rfl rfl (two_cells HR1.out rfl _ _)) rfl ?_
      rw [HYES.out]
      exact ⟨(HB1.out.setCell (p := ⟨w.heap.size, 0, none⟩) (Nat.le_refl _) _).setCell (p := ⟨w.heap.size, 1, none⟩) (Nat.le_refl _) _, _, rfl, Strs.nil _ _⟩
    · have e46 : (s.toList == [46]) = false := by rw [HE46.out]; exact decide_eq_false hone
      have HND : Hid (¬ (false = false ∧ bl s = [46])) := fun h => hone h.2
      by_cases hS46 : s[0] = 46
      · rw [decide_eq_true hS46] at Q46
        have HDT : (bl s).head? = some 46 := by rw [hShd.out, hS46]
        have HPD := Lib.hid (pa_dot false (bl s) HND.out HDT)
        have Q46n : ((s[0].toNat : Int) != 46) = false := by simp only [bne, Q46]; rfl
        clear hone HE46 hShd hS46 HDT HND
        go_wp2_with fail
        go_loopw [5, 6, 7] (fun v5 v6 v7 wr => ∃ (f i : Nat) (oa : Option Addr) (on oc : Nat) (d : List By), v5 = .int .i64 (f : Nat) ∧ v6 = .int .i64 (i : Nat) ∧ 1 ≤ f ∧ f ≤ i ∧ i ≤ s.size + 1 ∧ d.length ≤ i ∧ Hid (wr.heap[w.heap.size]? = some (.cells #[.bool false, .slice none 0 0] 56 (0, 0))) ∧ Hid (wr.heap[w.heap.size + 1]? = some (.cells #[.bool false, .slice oa on oc] 56 (0, 0))) ∧ Hid (OutS (w.heap.size + 2) wr (.slice oa on oc) (d.map mkB)) ∧ Hid (PaI s f i d) ∧ Hid (d.all lets = true) ∧ Hid (Below w.heap.size w wr)) (fun _ i _ _ => s.size + 2 - (intOf i).toNat)
        case atStart => exact ⟨1, 1, none, 0, 0, [], rfl, rfl, Nat.le_refl _, Nat.le_refl _, by omega, Nat.zero_le _, HR1, HP1, OutS.nil _ _, ⟨fun _ => by rw [Nat.sub_self, List.take_zero, goN_nil]; rfl, fun h => by omega⟩, rfl, HB1⟩
        case round =>
          obtain ⟨f, i, oa, on, oc, d, rfl, rfl, hf1, hfi, hi, hdi, HRr, HPr, HO, HI, HAL, HB⟩ := hrel
          have hfi' : (f : Int) ≤ (i : Int) := by omega
          have hsw0 := lt_of_block HPr.out
          clear HR1 HP1 HB1
          by_cases hle : i ≤ s.size
          · have hle' : (i : Int) ≤ (s.size : Int) := by omega
            by_cases hsz : i = s.size
            · have hsz' : ((i : Int) == (s.size : Int)) = true := by rw [hsz]; exact beq_self_eq_true _
              have HD : Hid (i = s.size ∨ ∃ h : i < s.size, isDot s[i] = true) := .inl hsz
              clear hsz
              have hcur : Hid (bl (s.extract f i) = ((bl s).drop f).take (i - f)) := ext_bl s f i hle
              have LT : Hid (Calls Tryz.prog 64 #[.string (s.extract f i)] wr fun e w' => e = .returned (.bool (lets (bl (s.extract f i)))) ∧ wr = w') := lettersR_calls (s.extract f i) (by rw [ByteArray.size_extract]; omega) wr
              cases hlt : lets (bl (s.extract f i)) with
              | false =>
                rw [hlt] at LT
                have HNO : Hid (wayB (bl s) = none) := by
                  unfold Hid
                  rw [HW.out, HPD.out, if_neg]
                  intro h
                  have := List.all_eq_true.1 h _ (pa_cur HI.out hle HD.out)
                  rw [← hcur.out, hlt] at this
                  cases this
                have r0 : wr.cell? ⟨w.heap.size, 0, none⟩ = some (.bool false) := by rw [cell_of_heap' HRr.out]; rfl
                have r1 : wr.cell? ⟨w.heap.size, 1, none⟩ = some (.slice none 0 0) := by rw [cell_of_heap' HRr.out]; rfl
                have rz := frozen_cells HRr.out
                clear hlt HD HI HAL HO HPr
                go_wp2_with (go_at_call 64; refine LT.out.mono ?_; rintro e w' ⟨rfl, rfl⟩)
                refine bodyPost_ret (results_way rfl rfl (two_cells HRr.out rfl _ _)) rfl ?_
                rw [HNO.out]
                exact ⟨(HB.out.setCell (p := ⟨w.heap.size, 0, none⟩) (Nat.le_refl _) _).setCell (p := ⟨w.heap.size, 1, none⟩) (Nat.le_refl _) _, rfl⟩
              | true =>
                rw [hlt] at LT
                have HI2 : Hid (PaI s (i + 1) (i + 1) (d ++ [bl (s.extract f i)])) := by unfold Hid; rw [hcur.out]; exact pa_put HI.out hle HD.out
                have HAL2 : Hid ((d ++ [bl (s.extract f i)]).all lets = true) := by unfold Hid; rw [List.all_append, HAL.out]; simp [hlt]
                have hA : Below wr.heap.size wr (wr.alloc (.cells #[.string (s.extract f i)] 9)) := (Below.refl _ wr).alloc (Nat.le_refl _) _
                have hOA := HO.out.below hA
                have hTA := heap_alloc_new wr (.cells #[.string (s.extract f i)] 9)
                have hdl : (d.map mkB).length ≤ 16777216 := by rw [List.length_map]; omega
                have hZA : w.heap.size + 2 ≤ (wr.alloc (.cells #[.string (s.extract f i)] 9)).heap.size := by simp; omega
                have hPl := lt_of_block HPr.out
                have hPA := (Below.heap_alloc wr (.cells #[.string (s.extract f i)] 9) _ hPl).trans HPr.out
                have hRA := (Below.heap_alloc wr (.cells #[.string (s.extract f i)] 9) _ (lt_of_block HRr.out)).trans HRr.out
                have x1 : wr.cell? ⟨w.heap.size + 1, 1, none⟩ = some (.slice oa on oc) := by rw [cell_of_heap' HPr.out]; rfl
                have x1a : ∀ o, (wr.alloc o).cell? ⟨w.heap.size + 1, 1, none⟩ = some (.slice oa on oc) := fun o => (World.cell?_alloc_old wr _ _ (Nat.ne_of_lt hPl)).trans x1
                have hmk : Hid ((d ++ [bl (s.extract f i)]).map mkB = d.map mkB ++ [s.extract f i]) := by unfold Hid; rw [List.map_append, List.map_singleton, mkB_bl]
                have hsw := HB.out.size
                clear hlt HD HI HAL
                go_upto_region 19 with (go_at_call 64; refine LT.out.mono ?_; rintro e w' ⟨rfl, rfl⟩)
                go_region_law (refine step_app_txt (by rfl) _ _ (by rfl) (w.heap.size + 2) (.slice oa on oc) (d.map mkB) (by rfl) (by exact hOA) (s.extract f i) wr.heap.size _ (by rfl) _ _ (by exact hTA) hdl hZA ?_; intro v1 w1 hv1 hb1 hgr1 hat1; obtain ⟨a1, n1, c1, rfl⟩ := hv1.slice; have hP1 := (hb1.block _ (by omega)).trans hPA; have hR1 := (hb1.block _ (by omega)).trans hRA; have s1 : w1.cell? ⟨w.heap.size + 1, 1, none⟩ = some (.slice oa on oc) := (by rw [cell_of_heap' hP1]; rfl); have z1 := frozen_cells hP1 1)
                all_goals
                  have HRn : Hid ((w1.setCell ⟨w.heap.size + 1, 1, none⟩ (.slice a1 n1 c1)).heap[w.heap.size]? = _) := (Below.heap_setCell _ _ _ _ (show w.heap.size ≠ w.heap.size + 1 by omega)).trans hR1
                  have HPn : Hid ((w1.setCell ⟨w.heap.size + 1, 1, none⟩ (.slice a1 n1 c1)).heap[w.heap.size + 1]? = _) := set_cells (j := 1) hP1 (.slice a1 n1 c1)
                  have HOn : Hid (OutS (w.heap.size + 2) (w1.setCell ⟨w.heap.size + 1, 1, none⟩ (.slice a1 n1 c1)) (.slice a1 n1 c1) ((d ++ [bl (s.extract f i)]).map mkB)) := by unfold Hid; rw [hmk.out]; exact hv1.set (by omega)
                  have HBn : Hid (Below w.heap.size w (w1.setCell ⟨w.heap.size + 1, 1, none⟩ (.slice a1 n1 c1))) := (((HB.out.trans (hA.mono hsw)).trans ((Sl.drew _).below _)).trans (hb1.mono (Nat.le_add_right _ 2))).setCell (p := ⟨w.heap.size + 1, 1, none⟩) (Nat.le_succ _) _
                  clear hv1 hb1 hgr1 hat1 hP1 hR1 s1 z1 hOA hTA hPA hRA
                  go_wp2_with fail
                  exact ⟨⟨i + 1, i + 1, a1, n1, c1, d ++ [bl (s.extract f i)], by go_num, by go_num, by omega, by omega, by omega, by rw [List.length_append, List.length_singleton]; omega, HRn, HPn, HOn, HI2, HAL2, HBn⟩, by simp [intOf]; omega⟩
            · have hlt : i < s.size := by omega
              have hsz' : ((i : Int) == (s.size : Int)) = false := beq_eq_false_iff_ne.2 (by omega)
              have q46 : ((s[i].toNat : Int) == 46) = decide (s[i] = 46) := u8eq s[i] 46 (by decide)
              clear hsz
              by_cases hdt : s[i] = 46
              · rw [decide_eq_true hdt] at q46
                have HD : Hid (i = s.size ∨ ∃ h : i < s.size, isDot s[i] = true) := .inr ⟨hlt, by rw [hdt]; rfl⟩
                clear hdt
                have hcur : Hid (bl (s.extract f i) = ((bl s).drop f).take (i - f)) := ext_bl s f i hle
                have LT : Hid (Calls Tryz.prog 64 #[.string (s.extract f i)] wr fun e w' => e = .returned (.bool (lets (bl (s.extract f i)))) ∧ wr = w') := lettersR_calls (s.extract f i) (by rw [ByteArray.size_extract]; omega) wr
                cases hlt : lets (bl (s.extract f i)) with
                | false =>
                  rw [hlt] at LT
                  have HNO : Hid (wayB (bl s) = none) := by
                    unfold Hid
                    rw [HW.out, HPD.out, if_neg]
                    intro h
                    have := List.all_eq_true.1 h _ (pa_cur HI.out hle HD.out)
                    rw [← hcur.out, hlt] at this
                    cases this
                  have r0 : wr.cell? ⟨w.heap.size, 0, none⟩ = some (.bool false) := by rw [cell_of_heap' HRr.out]; rfl
                  have r1 : wr.cell? ⟨w.heap.size, 1, none⟩ = some (.slice none 0 0) := by rw [cell_of_heap' HRr.out]; rfl
                  have rz := frozen_cells HRr.out
                  clear hlt HD HI HAL HO HPr
                  go_wp2_with (go_at_call 64; refine LT.out.mono ?_; rintro e w' ⟨rfl, rfl⟩)
                  refine bodyPost_ret (results_way rfl rfl (two_cells HRr.out rfl _ _)) rfl ?_
                  rw [HNO.out]
                  exact ⟨(HB.out.setCell (p := ⟨w.heap.size, 0, none⟩) (Nat.le_refl _) _).setCell (p := ⟨w.heap.size, 1, none⟩) (Nat.le_refl _) _, rfl⟩
                | true =>
                  rw [hlt] at LT
                  have HI2 : Hid (PaI s (i + 1) (i + 1) (d ++ [bl (s.extract f i)])) := by unfold Hid; rw [hcur.out]; exact pa_put HI.out hle HD.out
                  have HAL2 : Hid ((d ++ [bl (s.extract f i)]).all lets = true) := by unfold Hid; rw [List.all_append, HAL.out]; simp [hlt]
                  have hA : Below wr.heap.size wr (wr.alloc (.cells #[.string (s.extract f i)] 9)) := (Below.refl _ wr).alloc (Nat.le_refl _) _
                  have hOA := HO.out.below hA
                  have hTA := heap_alloc_new wr (.cells #[.string (s.extract f i)] 9)
                  have hdl : (d.map mkB).length ≤ 16777216 := by rw [List.length_map]; omega
                  have hZA : w.heap.size + 2 ≤ (wr.alloc (.cells #[.string (s.extract f i)] 9)).heap.size := by simp; omega
                  have hPl := lt_of_block HPr.out
                  have hPA := (Below.heap_alloc wr (.cells #[.string (s.extract f i)] 9) _ hPl).trans HPr.out
                  have hRA := (Below.heap_alloc wr (.cells #[.string (s.extract f i)] 9) _ (lt_of_block HRr.out)).trans HRr.out
                  have x1 : wr.cell? ⟨w.heap.size + 1, 1, none⟩ = some (.slice oa on oc) := by rw [cell_of_heap' HPr.out]; rfl
                  have x1a : ∀ o, (wr.alloc o).cell? ⟨w.heap.size + 1, 1, none⟩ = some (.slice oa on oc) := fun o => (World.cell?_alloc_old wr _ _ (Nat.ne_of_lt hPl)).trans x1
                  have hmk : Hid ((d ++ [bl (s.extract f i)]).map mkB = d.map mkB ++ [s.extract f i]) := by unfold Hid; rw [List.map_append, List.map_singleton, mkB_bl]
                  have hsw := HB.out.size
                  clear hlt HD HI HAL
                  go_upto_region 19 with (go_at_call 64; refine LT.out.mono ?_; rintro e w' ⟨rfl, rfl⟩)
                  go_region_law (refine step_app_txt (by rfl) _ _ (by rfl) (w.heap.size + 2) (.slice oa on oc) (d.map mkB) (by rfl) (by exact hOA) (s.extract f i) wr.heap.size _ (by rfl) _ _ (by exact hTA) hdl hZA ?_; intro v1 w1 hv1 hb1 hgr1 hat1; obtain ⟨a1, n1, c1, rfl⟩ := hv1.slice; have hP1 := (hb1.block _ (by omega)).trans hPA; have hR1 := (hb1.block _ (by omega)).trans hRA; have s1 : w1.cell? ⟨w.heap.size + 1, 1, none⟩ = some (.slice oa on oc) := (by rw [cell_of_heap' hP1]; rfl); have z1 := frozen_cells hP1 1)
                  all_goals
                    have HRn : Hid ((w1.setCell ⟨w.heap.size + 1, 1, none⟩ (.slice a1 n1 c1)).heap[w.heap.size]? = _) := (Below.heap_setCell _ _ _ _ (show w.heap.size ≠ w.heap.size + 1 by omega)).trans hR1
                    have HPn : Hid ((w1.setCell ⟨w.heap.size + 1, 1, none⟩ (.slice a1 n1 c1)).heap[w.heap.size + 1]? = _) := set_cells (j := 1) hP1 (.slice a1 n1 c1)
                    have HOn : Hid (OutS (w.heap.size + 2) (w1.setCell ⟨w.heap.size + 1, 1, none⟩ (.slice a1 n1 c1)) (.slice a1 n1 c1) ((d ++ [bl (s.extract f i)]).map mkB)) := by unfold Hid; rw [hmk.out]; exact hv1.set (by omega)
                    have HBn : Hid (Below w.heap.size w (w1.setCell ⟨w.heap.size + 1, 1, none⟩ (.slice a1 n1 c1))) := (((HB.out.trans (hA.mono hsw)).trans ((Sl.drew _).below _)).trans (hb1.mono (Nat.le_add_right _ 2))).setCell (p := ⟨w.heap.size + 1, 1, none⟩) (Nat.le_succ _) _
                    clear hv1 hb1 hgr1 hat1 hP1 hR1 s1 z1 hOA hTA hPA hRA
                    go_wp2_with fail
                    exact ⟨⟨i + 1, i + 1, a1, n1, c1, d ++ [bl (s.extract f i)], by go_num, by go_num, by omega, by omega, by omega, by rw [List.length_append, List.length_singleton]; omega, HRn, HPn, HOn, HI2, HAL2, HBn⟩, by simp [intOf]; omega⟩
              · rw [decide_eq_false hdt] at q46
                have HI2 : Hid (PaI s f (i + 1) d) := pa_on HI.out hfi hlt (beq_eq_false_iff_ne.2 hdt)
                clear hdt HI
                go_wp2_with fail
                exact ⟨⟨f, i + 1, oa, on, oc, d, rfl, by go_num, by omega, by omega, by omega, by omega, HRr, HPr, HO, HI2, HAL, HB⟩, by simp [intOf]; omega⟩
          · have hle' : ¬ (i : Int) ≤ (s.size : Int) := by omega
            have HDE : Hid (d = splitP isDot ((bl s).drop 1)) := HI.out.2 (by omega)
            have HYES : Hid (wayB (bl s) = some (false, d)) := by
              unfold Hid
              rw [HW.out, HPD.out, if_pos (by rw [← HDE.out]; exact HAL.out), HDE.out]
            have r0 : wr.cell? ⟨w.heap.size, 0, none⟩ = some (.bool false) := by rw [cell_of_heap' HRr.out]; rfl
            have r1 : wr.cell? ⟨w.heap.size, 1, none⟩ = some (.slice none 0 0) := by rw [cell_of_heap' HRr.out]; rfl
            have rz := frozen_cells HRr.out
            have x0 : wr.cell? ⟨w.heap.size + 1, 0, none⟩ = some (.bool false) := by rw [cell_of_heap' HPr.out]; rfl
            have x1 : wr.cell? ⟨w.heap.size + 1, 1, none⟩ = some (.slice oa on oc) := by rw [cell_of_heap' HPr.out]; rfl
            clear hle HI HAL HDE
            go_wp2_with fail
            refine bodyPost_ret (results_way rfl rfl (two_cells HRr.out rfl _ _)) rfl ?_
            rw [HYES.out]
            refine ⟨(HB.out.setCell (p := ⟨w.heap.size, 0, none⟩) (Nat.le_refl _) _).setCell (p := ⟨w.heap.size, 1, none⟩) (Nat.le_refl _) _, _, rfl, ?_⟩
            have hO2 := (HO.out.set (j := 0) (u := .bool false) (show w.heap.size < w.heap.size + 2 by omega)).set (j := 1) (u := .slice oa on oc) (show w.heap.size < w.heap.size + 2 by omega)
            exact hO2.strs.mono (fun b hb => ⟨by have := hb.1; omega, hb.2⟩)
      · rw [decide_eq_false hS46] at Q46
        have HNO : Hid (wayB (bl s) = none) := by unfold Hid; rw [HW.out]; exact pa_not false (bl s) HND.out (by rw [hShd.out]; intro h; exact hS46 (Option.some.inj h))
        have Q46n : ((s[0].toNat : Int) != 46) = true := by simp only [bne, Q46]; rfl
        clear hone HE46 hShd hS46 HND
        go_wp2_with fail
        refine bodyPost_ret (results_way rfl rfl (two_cells HR1.out rfl _ _)) rfl ?_
        rw [HNO.out]
        exact ⟨(HB1.out.setCell (p := ⟨w.heap.size, 0, none⟩) (Nat.le_refl _) _).setCell (p := ⟨w.heap.size, 1, none⟩) (Nat.le_refl _) _, rfl⟩
end Go.Proofs.YtdgcdjpjnhlihaaGreatDoor
