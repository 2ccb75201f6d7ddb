/- The contract of lacunaref00.WeighParts. The condition: lists and texts of at most 2 to the 47th bytes. -/
import Derived.Test.YtepcpgdfbaklfaaGreatDoorMcTs0
import Derived.Test.YtepcpgdfbaklfaaGreatDoorMcTg9
set_option linter.unusedSimpArgs false
set_option linter.unusedVariables false
namespace Go.Proofs.YtepcpgdfbaklfaaGreatDoor
open Go.RowKit Go.Shelf
attribute [local go_sem ↓] Go.wp_at_zero Go.wp_at_succ
def nsz (l : List ByteArray) : Nat := (l.map ByteArray.size).sum
def hw (h : Hd) : Nat := h.text.size + h.name.size + h.names.length + nsz h.names
def wq : Pt → Nat
 | .nil => 0
 | .cons h k e r => hw h + (k.len + wq k) + (e.len + wq e) + wq r
def wt (t : Pt) : Nat := t.len + wq t
theorem nsz_drop (l : List ByteArray) (k : Nat) (s : ByteArray) (h : l[k]? = some s) : nsz (l.drop k) = s.size + nsz (l.drop (k + 1)) := by
 have hlt := (List.getElem?_eq_some_iff.1 h).1
 rw [List.drop_eq_getElem_cons hlt, (List.getElem?_eq_some_iff.1 h).2]
 simp [nsz]
def nmGo (most : Nat) : Nat → List ByteArray → Nat
 | many, [] => many
 | many, s :: l => if many ≤ most then nmGo most (many + s.size) l else many
def wgGo : Pt → Nat → Nat → Nat
 | .nil, _, many => many
 | .cons h k e r, most, many =>
   if many ≤ most then
    wgGo r most
     (if (if nmGo most (many + h.text.size + h.name.size + h.names.length) h.names ≤ most then nmGo most (many + h.text.size + h.name.size + h.names.length) h.names + wgGo k (most - nmGo most (many + h.text.size + h.name.size + h.names.length) h.names) k.len else nmGo most (many + h.text.size + h.name.size + h.names.length) h.names) ≤ most
      then (if nmGo most (many + h.text.size + h.name.size + h.names.length) h.names ≤ most then nmGo most (many + h.text.size + h.name.size + h.names.length) h.names + wgGo k (most - nmGo most (many + h.text.size + h.name.size + h.names.length) h.names) k.len else nmGo most (many + h.text.size + h.name.size + h.names.length) h.names) +
       wgGo e (most - (if nmGo most (many + h.text.size + h.name.size + h.names.length) h.names ≤ most then nmGo most (many + h.text.size + h.name.size + h.names.length) h.names + wgGo k (most - nmGo most (many + h.text.size + h.name.size + h.names.length) h.names) k.len else nmGo most (many + h.text.size + h.name.size + h.names.length) h.names)) e.len
      else (if nmGo most (many + h.text.size + h.name.size + h.names.length) h.names ≤ most then nmGo most (many + h.text.size + h.name.size + h.names.length) h.names + wgGo k (most - nmGo most (many + h.text.size + h.name.size + h.names.length) h.names) k.len else nmGo most (many + h.text.size + h.name.size + h.names.length) h.names))
   else many
def wgF (most : Nat) (t : Pt) : Nat := wgGo t most t.len
theorem wgGo_hi (t : Pt) (most many : Nat) (h : ¬ many ≤ most) : wgGo t most many = many := by
 cases t with
 | nil => rfl
 | cons h k e r => rw [wgGo, if_neg (by assumption)]
theorem wgGo_step (h : Hd) (k e r : Pt) (most many m2 m3 m4 : Nat) (h1 : many ≤ most) (h2 : nmGo most (many + h.text.size + h.name.size + h.names.length) h.names = m2) (h3 : (if m2 ≤ most then m2 + wgF (most - m2) k else m2) = m3) (h4 : (if m3 ≤ most then m3 + wgF (most - m3) e else m3) = m4) :
 wgGo (.cons h k e r) most many = wgGo r most m4 := by
 unfold wgF at h3 h4
 rw [wgGo, if_pos h1, h2, h3, h4]
theorem nmGo_ge (most : Nat) : ∀ (l : List ByteArray) (many : Nat), many ≤ nmGo most many l := by
 intro l
 induction l with
 | nil => intro many; exact Nat.le_refl _
 | cons s l ih =>
   intro many
   unfold nmGo
   split
   · have := ih (many + s.size); omega
   · exact Nat.le_refl _
theorem nmGo_eq (most : Nat) : ∀ (l : List ByteArray) (many : Nat), nmGo most many l ≤ most → nmGo most many l = many + nsz l := by
 intro l
 induction l with
 | nil => intro many _; rfl
 | cons s l ih =>
   intro many
   unfold nmGo
   split
   · intro h; rw [ih _ h]; simp [nsz]; omega
   · intro h; omega
theorem nmGo_bd (most K : Nat) (hK : 140737488351232 ≤ K) : ∀ (l : List ByteArray) (many : Nat), (∀ n ∈ l, n.size ≤ 140737488351232) → many ≤ most + K → nmGo most many l ≤ most + K := by
 intro l
 induction l with
 | nil => intro many _ h; exact h
 | cons s l ih =>
   intro many hs h
   unfold nmGo
   split
   · exact ih _ (fun n hn => hs n (List.mem_cons_of_mem _ hn)) (by have := hs s (by simp); omega)
   · exact h
theorem wgGo_ge : ∀ (t : Pt) (most many : Nat), many ≤ wgGo t most many := by
 intro t
 induction t with
 | nil => intro most many; exact Nat.le_refl _
 | cons h k e r ihk ihe ihr =>
   intro most many
   by_cases h1 : many ≤ most
   · rw [wgGo_step h k e r most many _ _ _ h1 rfl rfl rfl]
     refine Nat.le_trans ?_ (ihr _ _)
     have q := nmGo_ge most h.names (many + h.text.size + h.name.size + h.names.length)
     repeat' split
     all_goals omega
   · rw [wgGo_hi _ _ _ h1]; exact Nat.le_refl _
theorem wgGo_eq : ∀ (t : Pt) (most many : Nat), wgGo t most many ≤ most → wgGo t most many = many + wq t := by
 intro t
 induction t with
 | nil => intro most many _; rfl
 | cons h k e r ihk ihe ihr =>
   intro most many hle
   by_cases h1 : many ≤ most
   · obtain ⟨m2, e2⟩ : ∃ m, nmGo most (many + h.text.size + h.name.size + h.names.length) h.names = m := ⟨_, rfl⟩
     obtain ⟨m3, e3⟩ : ∃ m, (if m2 ≤ most then m2 + wgF (most - m2) k else m2) = m := ⟨_, rfl⟩
     obtain ⟨m4, e4⟩ : ∃ m, (if m3 ≤ most then m3 + wgF (most - m3) e else m3) = m := ⟨_, rfl⟩
     rw [wgGo_step h k e r most many m2 m3 m4 h1 e2 e3 e4] at hle ⊢
     have q4 : m4 ≤ most := Nat.le_trans (wgGo_ge r most m4) hle
     rw [ihr most m4 hle]
     have q3 : m3 ≤ most := by split at e4 <;> omega
     rw [if_pos q3] at e4
     have q2 : m2 ≤ most := by split at e3 <;> omega
     rw [if_pos q2] at e3
     have a2 := nmGo_eq most h.names _ (by rw [e2]; exact q2)
     have a3 := ihk (most - m2) k.len (by unfold wgF at e3; omega)
     have a4 := ihe (most - m3) e.len (by unfold wgF at e4; omega)
     unfold wgF at e3 e4
     simp only [wq, hw]
     omega
   · rw [wgGo_hi _ _ _ h1] at hle; exact absurd hle h1
theorem wgGo_bd : ∀ (t : Pt) (most many : Nat), t.wf → many ≤ most + 422212465053696 → wgGo t most many ≤ most + 422212465053696 := by
 intro t
 induction t with
 | nil => intro most many _ h; exact h
 | cons h k e r ihk ihe ihr =>
   intro most many hwf hb
   obtain ⟨⟨-, -, -, f1, f2, f3, f4⟩, hwk, hwe, hwr, hkl, hel⟩ := hwf
   by_cases h1 : many ≤ most
   · obtain ⟨m2, e2⟩ : ∃ m, nmGo most (many + h.text.size + h.name.size + h.names.length) h.names = m := ⟨_, rfl⟩
     obtain ⟨m3, e3⟩ : ∃ m, (if m2 ≤ most then m2 + wgF (most - m2) k else m2) = m := ⟨_, rfl⟩
     obtain ⟨m4, e4⟩ : ∃ m, (if m3 ≤ most then m3 + wgF (most - m3) e else m3) = m := ⟨_, rfl⟩
     rw [wgGo_step h k e r most many m2 m3 m4 h1 e2 e3 e4]
     have b2 := nmGo_bd most 422212465053696 (by omega) h.names _ f4 (show many + h.text.size + h.name.size + h.names.length ≤ most + 422212465053696 by omega)
     have b3 : m3 ≤ most + 422212465053696 := by
      split at e3
      · have := ihk (most - m2) k.len hwk (by omega); unfold wgF at e3; omega
      · omega
     refine ihr most m4 hwr ?_
     split at e4
     · have := ihe (most - m3) e.len hwe (by omega); unfold wgF at e4; omega
     · omega
   · rw [wgGo_hi _ _ _ h1]; exact hb
theorem wgF_bd (t : Pt) (most : Nat) (h : t.wf) (hl : t.len ≤ 140737488351232) : wgF most t ≤ most + 422212465053696 := wgGo_bd t most t.len h (by omega)
theorem wgF_eq (t : Pt) (most : Nat) (h : wgF most t ≤ most) : wgF most t = wt t := wgGo_eq t most t.len h
def Qt (w w' : World) : Prop := ∃ n, w' = w.drewN n
theorem Qt.refl (w : World) : Qt w w := ⟨0, rfl⟩
theorem Qt.trans {a b c : World} (h : Qt a b) (k : Qt b c) : Qt a c := by
 obtain ⟨n, rfl⟩ := h
 obtain ⟨m, rfl⟩ := k
 exact ⟨n + m, by rw [World.drewN_drewN]⟩
theorem Qt.drewN {a b : World} (h : Qt a b) (n : Nat) : Qt a (b.drewN n) := h.trans ⟨n, rfl⟩
theorem Qt.cell {a b : World} (h : Qt a b) (p : Addr) : b.cell? p = a.cell? p := by obtain ⟨n, rfl⟩ := h; rfl
theorem Qt.block {a b : World} (h : Qt a b) (k : Nat) : b.heap[k]? = a.heap[k]? := by obtain ⟨n, rfl⟩ := h; rfl
def WgP (most : Nat) (x : Pt) (w : World) (e : Ending) (w' : World) : Prop := e = .returned (.int .i64 (wgF most x : Nat)) ∧ Qt w w'
def WgSaid (n : Nat) : Prop := ∀ (x : Pt), x.cnt < n → ∀ (most : Nat) (ok : Nat → Prop) (v : Value) (w : World), most ≤ 16384 → x.wf → x.len ≤ 140737488351232 → Parts ok w v x → Calls Tryz.prog 49 #[v, .int .i64 (most : Nat)] w (WgP most x w)
set_option maxRecDepth 100000 in
set_option maxHeartbeats 40000000 in
theorem wg_step (n : Nat) (ih : WgSaid n) : WgSaid (n + 1) := by
 intro x hn most ok v w hmost hwf hxl hx
 obtain ⟨a, c, rfl, h1, h2, h3⟩ := hx.lt
 have HX : Hid (Rest ok a w x 0) := fun hne => by
  obtain ⟨b, o, q1, q2, q3⟩ := h3 hne
  exact ⟨b, o, q1, q2, by rw [Nat.zero_mul, Nat.add_zero]; exact q3⟩
 have HWF := Lib.hid hwf
 have IH := Lib.hid ih
 clear h3 hx h1 h2 hwf ih
 go_enter Tryz.func49, Tryz.ntmps49
 go_wp2_with fail
 go_loopw [5, 6] (fun v5 v6 wr => ∃ (many k : Nat) (r : Pt), v5 = .int .i64 (many : Nat) ∧ v6 = .int .i64 (k : Nat) ∧ k + r.len = x.len ∧ Hid (wgGo r most many = wgF most x) ∧ many ≤ most + 422212465053696 ∧ Hid (Rest ok a w r k) ∧ Hid r.wf ∧ r.cnt ≤ x.cnt ∧ Hid (Qt w wr)) (fun _ i _ => x.len - (intOf i).toNat)
 case atStart => exact ⟨x.len, 0, x, rfl, rfl, by omega, rfl, by omega, HX, HWF, Nat.le_refl _, Qt.refl _⟩
 case round =>
  obtain ⟨many, k, r, rfl, rfl, hk, HM, hmb, HR, HF, hcn, HB⟩ := hrel
  cases r with
  | nil =>
    simp only [Pt.len] at hk
    have hge : ¬ (k : Int) < (x.len : Int) := by omega
    have HME : Hid (many = wgF most x) := HM.out
    go_wp2_with fail
    go_ret
    exact ⟨by rw [← HME.out]; rfl, HB.out⟩
  | cons h kd el r =>
    simp only [Pt.len] at hk
    simp only [Pt.cnt] at hcn
    have hkt : (k : Int) < (x.len : Int) := by omega
    by_cases hmm : many ≤ most
    · have hmm' : (many : Int) ≤ (most : Int) := by omega
      have hk0 : (0 : Int) ≤ (k : Int) := by omega
      obtain ⟨b, o, rfl, hb, hrow⟩ := HR.out (by simp)
      obtain ⟨hwh, hwk, hwe, hwr, hkl, hel⟩ := HF.out
      obtain ⟨-, -, -, f1, f2, f3, f4⟩ := hwh
      have HRS : Hid (Rest ok (some ⟨b, o, none⟩) w r (k + 1)) := fun _ => ⟨b, o, rfl, hb, by have := hrow.2.2.2; rwa [show o + k * 8 + 8 = o + (k + 1) * 8 by omega] at this⟩
      obtain ⟨⟨-, -, g2, -, ⟨vn, g4, hstr⟩, g5⟩, ⟨ak, ck, g6, k1, k2, k3⟩, ⟨ae, ce, g7, e1, e2, e3⟩, -⟩ := hrow
      have KC : Hid (∀ W (m : Nat), Qt w W → m ≤ 16384 → Calls Tryz.prog 49 #[.slice ak kd.len ck, .int .i64 (m : Nat)] W (WgP m kd W)) := fun W m hW hm =>
       IH.out kd (by omega) m (fun b => ok b ∧ b < w.heap.size) _ W hm hwk hkl (Parts.kept ⟨ak, ck, rfl, k1, k2, k3⟩ (fun b hb => hW.block b))
      have EC : Hid (∀ W (m : Nat), Qt w W → m ≤ 16384 → Calls Tryz.prog 49 #[.slice ae el.len ce, .int .i64 (m : Nat)] W (WgP m el W)) := fun W m hW hm =>
       IH.out el (by omega) m (fun b => ok b ∧ b < w.heap.size) _ W hm hwe hel (Parts.kept ⟨ae, ce, rfl, e1, e2, e3⟩ (fun b hb => hW.block b))
      obtain ⟨an, cn, rfl, n1, n2, n3⟩ := hstr
      have HCELL : Hid (∀ W, Qt w W → W.cell? ⟨b, o + k * 8 + 2, none⟩ = some (.string h.text) ∧ W.cell? ⟨b, o + k * 8 + 4, none⟩ = some (.slice an h.names.length cn) ∧ W.cell? ⟨b, o + k * 8 + 5, none⟩ = some (.string h.name) ∧
       W.cell? ⟨b, o + k * 8 + 6, none⟩ = some (.slice ak kd.len ck) ∧ W.cell? ⟨b, o + k * 8 + 7, none⟩ = some (.slice ae el.len ce)) := fun W hW =>
       ⟨(hW.cell ⟨b, _, none⟩).trans g2, (hW.cell ⟨b, _, none⟩).trans g4, (hW.cell ⟨b, _, none⟩).trans g5, (hW.cell ⟨b, _, none⟩).trans g6, (hW.cell ⟨b, _, none⟩).trans g7⟩
      have HN3 : Hid (∀ W, Qt w W → ∀ j s, h.names[j]? = some s → ∃ bn on, an = some ⟨bn, on, none⟩ ∧ W.cell? ⟨bn, on + j, none⟩ = some (.string s)) := fun W hW j s hj => by
       obtain ⟨bn, on, q1, q2, q3⟩ := n3 (by intro e; rw [e] at hj; simp at hj)
       exact ⟨bn, on, q1, (hW.cell ⟨bn, _, none⟩).trans (q3 j s hj)⟩
      have HF4 := Lib.hid f4
      have HMX := Lib.hid HM.out
      have HMM := Lib.hid hmm
      have HKI := Lib.hid hk
      have HWR := Lib.hid hwr
      have HWK := Lib.hid hwk
      have HWE := Lib.hid hwe
      have hki : k + 1 + r.len ≤ x.len := by omega
      clear g2 g4 g5 g6 g7 k3 e3 n3 f4 hwk hwe hwr hk
      obtain ⟨p2, p4, p5, p6, p7⟩ := HCELL.out _ HB.out
      have wr1 : IntKind.i64.wrap ((many : Int) + (h.text.size : Int)) = (many : Int) + (h.text.size : Int) := IntWalk.i64_in _ ⟨by omega, by omega⟩
      have wr2 : IntKind.i64.wrap ((many : Int) + (h.text.size : Int) + (h.name.size : Int)) = (many : Int) + (h.text.size : Int) + (h.name.size : Int) := IntWalk.i64_in _ ⟨by omega, by omega⟩
      have wr3 : IntKind.i64.wrap ((many : Int) + (h.text.size : Int) + (h.name.size : Int) + (h.names.length : Int)) = (many : Int) + (h.text.size : Int) + (h.name.size : Int) + (h.names.length : Int) := IntWalk.i64_in _ ⟨by omega, by omega⟩
      go_upto_region 5 with (fail)
      go_quiet (fail)
      clear wr1 wr2 wr3 p2 p4 p5 p6 p7
      obtain ⟨M1, hM1⟩ : ∃ M1 : Nat, M1 = many + h.text.size + h.name.size + h.names.length := ⟨_, rfl⟩
      have hM1i : (many : Int) + (h.text.size : Int) + (h.name.size : Int) + (h.names.length : Int) = ((M1 : Nat) : Int) := by omega
      rw [hM1i]
      have HM1 := Lib.hid hM1
      have hM1b : M1 ≤ most + 422212465053696 := by omega
      clear hM1i hM1
      generalize hWq : World.drewN wr _ = w1
      have HBq : Hid (Qt w w1) := by rw [← hWq]; exact HB.out.drewN _
      clear hWq
      go_wp2_with fail
      go_loopw [5, 7] (fun v5 v7 wi => ∃ (m j : Nat), v5 = .int .i64 (m : Nat) ∧ v7 = .int .i64 (j : Nat) ∧ j ≤ h.names.length ∧ Hid (nmGo most m (h.names.drop j) = nmGo most M1 h.names) ∧ m ≤ most + 422212465053696 ∧ Hid (Qt w wi)) (fun _ j _ => h.names.length - (intOf j).toNat)
      case atStart => exact ⟨M1, 0, rfl, rfl, Nat.zero_le _, rfl, hM1b, HBq⟩
      case round =>
       obtain ⟨m, j, rfl, rfl, hj, HI, hmB, HBI⟩ := hrel
       obtain ⟨p2, p4, p5, p6, p7⟩ := HCELL.out _ HBI.out
       have hj0 : (0 : Int) ≤ (j : Int) := by omega
       by_cases hjn : j < h.names.length
       · have hjn' : (j : Int) < (h.names.length : Int) := by omega
         by_cases hmm2 : m ≤ most
         · have hmm2' : (m : Int) ≤ (most : Int) := by omega
           obtain ⟨s, hjs⟩ : ∃ s, h.names[j]? = some s := ⟨_, List.getElem?_eq_getElem hjn⟩
           obtain ⟨bn, on, rfl, q1⟩ := HN3.out _ HBI.out j s hjs
           have hss : s.size ≤ 140737488351232 := HF4.out s (List.mem_of_getElem? hjs)
           have HI2 : Hid (nmGo most (m + s.size) (h.names.drop (j + 1)) = nmGo most M1 h.names) := by
            have := HI.out
            have hlt := (List.getElem?_eq_some_iff.1 hjs).1
            rw [List.drop_eq_getElem_cons hlt, (List.getElem?_eq_some_iff.1 hjs).2, nmGo, if_pos hmm2] at this
            exact this
           clear hjs hjn hmm2
           go_wp2_with fail
           go_roundw
           case rel => exact ⟨m + s.size, j + 1, by go_num, by go_num, by omega, HI2, by omega, HBI⟩
           case measure => simp [intOf]; omega
         · have hmm2' : ¬ (m : Int) ≤ (most : Int) := by omega
           have HN2 := Lib.hid hmm2
           have HI2 : Hid (nmGo most M1 h.names = m) := by
            have := HI.out
            obtain ⟨s, hjs⟩ : ∃ s, h.names[j]? = some s := ⟨_, List.getElem?_eq_getElem hjn⟩
            have hlt := (List.getElem?_eq_some_iff.1 hjs).1
            rw [List.drop_eq_getElem_cons hlt, nmGo, if_neg HN2.out] at this
            exact this.symm
           clear hmm2 hjn
           go_wp2_with fail
           go_roundw
           case rel => exact ⟨m, k + 1, r, rfl, by go_num, by have := HKI.out; omega, (by have q := wgGo_step h kd el r most many m m m HMM.out (by rw [← HM1.out]; exact HI2.out) (if_neg HN2.out) (if_neg HN2.out); unfold Hid; rw [← q]; exact HMX.out), by omega, HRS, HWR, by omega, HBI⟩
           case measure => simp [intOf]; omega
       · have hjn' : ¬ (j : Int) < (h.names.length : Int) := by omega
         have HI2 : Hid (nmGo most M1 h.names = m) := by have := HI.out; rw [List.drop_of_length_le (by omega)] at this; exact this.symm
         clear hjn
         by_cases hmm2 : m ≤ most
         · have hmm2' : (m : Int) ≤ (most : Int) := by omega
           have HMM2 := Lib.hid hmm2
           have KK := Lib.hid (KC.out _ (most - m) HBI.out (by omega))
           have hsub : (most : Int) - (m : Int) = ((most - m : Nat) : Int) := by omega
           go_wp2_with fail
           refine KK.out.mono ?_
           rintro e w3 ⟨rfl, hb3⟩
           have HB3 : Hid (Qt w w3) := HBI.out.trans hb3
           obtain ⟨mk, hmk⟩ : ∃ mk, wgF (most - m) kd = mk := ⟨_, rfl⟩
           rw [hmk]
           have hkb := wgF_bd kd (most - m) HWK.out hkl
           rw [hmk] at hkb
           have hkb2 : m + mk ≤ most + 422212465053696 := by omega
           have HMK := Lib.hid hmk
           clear hb3 hmk hkb KK p2 p4 p5 p6 p7 hsub
           obtain ⟨p2, p4, p5, p6, p7⟩ := HCELL.out _ HB3.out
           have H3S : Hid ((if m ≤ most then m + wgF (most - m) kd else m) = m + mk) := by unfold Hid; rw [if_pos HMM2.out, HMK.out]
           by_cases hm4 : m + mk ≤ most
           · have hm4' : (m : Int) + (mk : Int) ≤ (most : Int) := by omega
             have EE := Lib.hid (EC.out _ (most - (m + mk)) HB3.out (by omega))
             have hsub : (most : Int) - ((m : Int) + (mk : Int)) = ((most - (m + mk) : Nat) : Int) := by omega
             have HM4 := Lib.hid hm4
             go_wp2_with fail
             refine EE.out.mono ?_
             rintro e w4 ⟨rfl, hb4⟩
             have HB4 : Hid (Qt w w4) := HB3.out.trans hb4
             obtain ⟨me, hme⟩ : ∃ me, wgF (most - (m + mk)) el = me := ⟨_, rfl⟩
             rw [hme]
             have heb := wgF_bd el (most - (m + mk)) HWE.out hel
             rw [hme] at heb
             have heb2 : m + mk + me ≤ most + 422212465053696 := by omega
             have HFIN : Hid (wgGo r most (m + mk + me) = wgF most x) := by
              have q := wgGo_step h kd el r most many m (m + mk) (m + mk + me) HMM.out (by rw [← HM1.out]; exact HI2.out) H3S.out (by rw [if_pos HM4.out, hme])
              unfold Hid; rw [← q]; exact HMX.out
             clear hb4 hme heb EE p2 p4 p5 p6 p7 hsub
             go_wp2_with fail
             go_roundw
             case rel => exact ⟨m + mk + me, k + 1, r, by go_num, by go_num, by have := HKI.out; omega, HFIN, by omega, HRS, HWR, by omega, HB4⟩
             case measure => simp [intOf]; omega
           · have hm4' : ¬ (m : Int) + (mk : Int) ≤ (most : Int) := by omega
             have HFIN : Hid (wgGo r most (m + mk) = wgF most x) := by
              have q := wgGo_step h kd el r most many m (m + mk) (m + mk) HMM.out (by rw [← HM1.out]; exact HI2.out) H3S.out (if_neg hm4)
              unfold Hid; rw [← q]; exact HMX.out
             clear hm4
             go_wp2_with fail
             go_roundw
             case rel => exact ⟨m + mk, k + 1, r, by go_num, by go_num, by have := HKI.out; omega, HFIN, by omega, HRS, HWR, by omega, HB3⟩
             case measure => simp [intOf]; omega
         · have hmm2' : ¬ (m : Int) ≤ (most : Int) := by omega
           have HN2 := Lib.hid hmm2
           clear hmm2
           go_wp2_with fail
           go_roundw
           case rel => exact ⟨m, k + 1, r, rfl, by go_num, by have := HKI.out; omega, (by have q := wgGo_step h kd el r most many m m m HMM.out (by rw [← HM1.out]; exact HI2.out) (if_neg HN2.out) (if_neg HN2.out); unfold Hid; rw [← q]; exact HMX.out), by omega, HRS, HWR, by omega, HBI⟩
           case measure => simp [intOf]; omega
    · have hmm' : ¬ (many : Int) ≤ (most : Int) := by omega
      have HN := Lib.hid hmm
      clear hmm
      go_wp2_with fail
      go_ret
      exact ⟨by rw [← HM.out, wgGo_hi _ _ _ HN.out]; rfl, HB.out⟩
theorem wg_all (n : Nat) : WgSaid n := by
 induction n with
 | zero => intro x h; exact absurd h (Nat.not_lt_zero _)
 | succ n ih => exact wg_step n ih
theorem weighParts_calls (x : Pt) (most : Nat) (ok : Nat → Prop) (v : Value) (w : World) (hm : most ≤ 16384) (hwf : x.wf) (hl : x.len ≤ 140737488351232) (hx : Parts ok w v x) : Calls Tryz.prog 49 #[v, .int .i64 (most : Nat)] w (WgP most x w) :=
 wg_all (x.cnt + 1) x (Nat.lt_succ_self _) most ok v w hm hwf hl hx
def wtD (l : List Df) : Nat := (l.map fun d => d.name.size + wt d.kids).sum
def wtT (t : Tm) : Nat := wt t.main + t.defs.length + wtD t.defs
theorem wtD_cons (d : Df) (l : List Df) : wtD (d :: l) = d.name.size + wt d.kids + wtD l := by simp [wtD]
theorem drop_cons' (l : List Df) (k : Nat) (d : Df) (h : l[k]? = some d) : l.drop k = d :: l.drop (k + 1) := by
 have hlt := (List.getElem?_eq_some_iff.1 h).1
 rw [List.drop_eq_getElem_cons hlt, (List.getElem?_eq_some_iff.1 h).2]
def WgTP (most : Nat) (t : Tm) (w : World) (e : Ending) (w' : World) : Prop := ∃ m : Nat, e = .returned (.int .i64 (m : Nat)) ∧ (m ≤ most → m = wtT t) ∧ Below w.heap.size w w'
set_option maxRecDepth 100000 in
set_option maxHeartbeats 40000000 in
theorem weighTemplate_calls (t : Tm) (most : Nat) (hmost : most ≤ 16384) (hz : TmW t) (ok : Nat → Prop) (vm vd : Value) (w : World) (hx : Parts ok w vm t.main) (hd : Defs ok w vd t.defs) :
 Calls Tryz.prog 27 #[.agg #[vm, vd], .int .i64 (most : Nat)] w (WgTP most t w) := by
 obtain ⟨main, defs⟩ := t
 obtain ⟨⟨z1, z1'⟩, z2, z3⟩ := hz
 dsimp only at z1 z1' z2 z3 hx hd
 have MC : Hid (∀ W, Below w.heap.size w W → Calls Tryz.prog 49 #[vm, .int .i64 (most : Nat)] W (WgP most main W)) := fun W hW =>
  weighParts_calls main most (fun b => ok b ∧ b < w.heap.size) vm W hmost z1 z1' (hx.lt.kept (fun b hb => hW.block b hb.2))
 obtain ⟨am, cm, rfl, -⟩ := hx
 obtain ⟨a, c, rfl, h1, h2, h3⟩ := hd.lt
 have H3 := Lib.hid h3
 have HZ3 := Lib.hid z3
 have HZ1 := Lib.hid (And.intro z1 z1')
 clear h3 hd h1 h2 z1 z1' z3
 have HB0 : Hid (Below w.heap.size w (w.alloc (.cells #[.slice am main.len cm, .slice a defs.length c] 25))) := (Below.refl _ w).alloc (Nat.le_refl _) _
 have HT0 : Hid ((w.alloc (.cells #[.slice am main.len cm, .slice a defs.length c] 25)).heap[w.heap.size]? = some (.cells #[.slice am main.len cm, .slice a defs.length c] 25 (0, 0))) := heap_alloc_new w _
 have HS0 : Hid ((w.alloc (.cells #[.slice am main.len cm, .slice a defs.length c] 25)).heap.size = w.heap.size + 1) := by unfold Hid; simp
 go_enter Tryz.func27, Tryz.ntmps27
 go_upto_region 1 with (fail)
 generalize hWW : World.alloc w _ = W0 at *
 clear hWW
 have HTC : Hid (∀ W, Below (w.heap.size + 1) W0 W → W.cell? ⟨w.heap.size, 0, none⟩ = some (.slice am main.len cm) ∧ W.cell? ⟨w.heap.size, 1, none⟩ = some (.slice a defs.length c)) := fun W hW =>
  ⟨by rw [cell_of_heap' ((hW.block _ (by omega)).trans HT0.out)]; rfl, by rw [cell_of_heap' ((hW.block _ (by omega)).trans HT0.out)]; rfl⟩
 obtain ⟨t0, t1⟩ := HTC.out _ (Below.refl _ _)
 have MD : Hid (∀ n, Calls Tryz.prog 49 #[.slice am main.len cm, .int .i64 (most : Nat)] (W0.drewN n) fun e w' => e = .returned (.int .i64 (wgF most main : Nat)) ∧ ∃ m, w' = (W0.drewN n).drewN m) := fun n => (MC.out (W0.drewN n) (below_drewN HB0.out n)).mono (fun e w' h => h)
 obtain ⟨m0, hm00⟩ : ∃ m, wgF most main = m := ⟨_, rfl⟩
 have hm0 := wgF_bd main most HZ1.out.1 HZ1.out.2
 have HM0 : Hid (m0 ≤ most → m0 = wt main) := fun e => by rw [← hm00] at e ⊢; exact wgF_eq _ _ e
 rw [hm00] at hm0 MD
 clear hm00
 have wr0 : IntKind.i64.wrap ((m0 : Int) + (defs.length : Int)) = (m0 : Int) + (defs.length : Int) := IntWalk.i64_in _ ⟨by omega, by omega⟩
 go_quiet ((go_at_call 49; exact Calls.quiet_of (MD.out _)))
 generalize hWq : World.drewN W0 _ = w1
 have HB1 : Hid (Below (w.heap.size + 1) W0 w1) := by rw [← hWq]; exact below_drewN (Below.refl _ _) _
 clear hWq wr0 t0 t1
 obtain ⟨t0, t1⟩ := HTC.out _ HB1.out
 all_goals
  have hm0z : m0 + defs.length ≤ most + 700000000000000 := by omega
  have HINI : Hid (m0 + defs.length ≤ most → m0 + defs.length + wtD (defs.drop 0) = wtT ⟨main, defs⟩) := fun e => by have := HM0.out (by omega); simp [wtT, this]
  go_wp2_with fail
  go_loopw [5, 6] (fun v5 v6 wr => ∃ (many k : Nat), v5 = .int .i64 (many : Nat) ∧ v6 = .int .i64 (k : Nat) ∧ k ≤ defs.length ∧ Hid (many ≤ most → many + wtD (defs.drop k) = wtT ⟨main, defs⟩) ∧ many ≤ most + 700000000000000 ∧ Hid (Below (w.heap.size + 1) W0 wr)) (fun _ i _ => defs.length - (intOf i).toNat)
  case atStart => exact ⟨m0 + defs.length, 0, by go_num, rfl, Nat.zero_le _, HINI, hm0z, HB1⟩
  case round =>
   obtain ⟨many, k, rfl, rfl, hk, HM, hmb, HB⟩ := hrel
   clear t0 t1
   obtain ⟨t0, t1⟩ := HTC.out _ HB.out
   by_cases hlt : k < defs.length
   · have hlt' : (k : Int) < (defs.length : Int) := by omega
     by_cases hmm : many ≤ most
     · have hmm' : (many : Int) ≤ (most : Int) := by omega
       have hk0 : (0 : Int) ≤ (k : Int) := by omega
       obtain ⟨d, hdk⟩ : ∃ d, defs[k]? = some d := ⟨_, List.getElem?_eq_getElem hlt⟩
       obtain ⟨b, o, rfl, hb, hrow⟩ := H3.out (by intro e; rw [e] at hlt; simp at hlt)
       have HBW : Hid (Below w.heap.size w wr) := HB0.out.trans (HB.out.mono (by omega))
       obtain ⟨g0, g1, v, g2, hpd⟩ := DRow.at _ _ _ _ _ hdk (hrow.kept (fun b hb => HBW.out.block b hb.2) _ _ _ hb)
       obtain ⟨y1, y2, y3⟩ := HZ3.out d (List.mem_of_getElem? hdk)
       have HMX : Hid (many + (d.name.size + wt d.kids + wtD (defs.drop (k + 1))) = wtT ⟨main, defs⟩) := by have := HM.out hmm; rw [drop_cons' _ _ _ hdk, wtD_cons] at this; exact this
       have hbl : b < wr.heap.size := by have := hb.2; have := HBW.out.size; omega
       have KC : Hid (∀ n, Calls Tryz.prog 49 #[v, .int .i64 ((most - many : Nat) : Nat)] (wr.drewN n) fun e w' => e = .returned (.int .i64 (wgF (most - many) d.kids : Nat)) ∧ ∃ m, w' = (wr.drewN n).drewN m) := fun n =>
        (weighParts_calls d.kids (most - many) (fun b => ok b ∧ b < w.heap.size) v (wr.drewN n) (by omega) y2 y3 (hpd.kept (fun _ _ => rfl))).mono (fun e w' h => h)
       have hke := wgF_eq d.kids (most - many)
       have hkb := wgF_bd d.kids (most - many) y2 y3
       obtain ⟨mk, hmk⟩ : ∃ m, wgF (most - many) d.kids = m := ⟨_, rfl⟩
       rw [hmk] at hke hkb KC
       have HKE := Lib.hid hke
       have wr2 : IntKind.i64.wrap ((many : Int) + (d.name.size : Int) + (mk : Int)) = (many : Int) + (d.name.size : Int) + (mk : Int) := IntWalk.i64_in _ ⟨by omega, by omega⟩
       have wr3 : IntKind.i64.wrap ((most : Int) - (many : Int)) = ((most - many : Nat) : Int) := by rw [IntWalk.i64_in _ ⟨by omega, by omega⟩]; omega
       clear hmk hke
       obtain ⟨av, cv, rfl, -⟩ := hpd
       have hsub : (most : Int) - (many : Int) = ((most - many : Nat) : Int) := by omega
       have wr1 : IntKind.i64.wrap ((many : Int) + (d.name.size : Int)) = (many : Int) + (d.name.size : Int) := IntWalk.i64_in _ ⟨by omega, by omega⟩
       clear hdk hrow hlt
       go_upto_region 5 with (fail)
       go_quiet ((go_at_call 49; exact Calls.quiet_of (KC.out _)))
       generalize hWq : World.drewN wr _ = w3
       have HB3 : Hid (Below (w.heap.size + 1) W0 w3) := by rw [← hWq]; exact below_drewN HB.out _
       have HFIN : Hid (many + d.name.size + mk ≤ most → many + d.name.size + mk + wtD (defs.drop (k + 1)) = wtT ⟨main, defs⟩) := fun e => by have := HKE.out (by omega); have := HMX.out; omega
       clear hWq KC hsub hmm wr1 wr2 wr3 g0 g1 g2 t0 t1
       go_wp2_with fail
       go_roundw
       case rel => exact ⟨many + d.name.size + mk, k + 1, by go_num, by go_num, by omega, HFIN, by omega, HB3⟩
       case measure => simp [intOf]; omega
     · have hmm' : ¬ (many : Int) ≤ (most : Int) := by omega
       have HN := Lib.hid hmm
       clear hmm
       go_wp2_with fail
       go_ret
       exact ⟨many, rfl, fun e => absurd e HN.out, HB0.out.trans (HB.out.mono (by omega))⟩
   · have hge : ¬ (k : Int) < (defs.length : Int) := by omega
     have HFIN : Hid (many ≤ most → many = wtT ⟨main, defs⟩) := fun e => by have := HM.out e; rw [List.drop_of_length_le (by omega)] at this; simpa [wtD] using this
     go_wp2_with fail
     go_ret
     exact ⟨many, rfl, HFIN.out, HB0.out.trans (HB.out.mono (by omega))⟩
theorem cnt_wt (t : Pt) : t.cnt ≤ t.len + wq t := by
 induction t with
 | nil => exact Nat.le_refl _
 | cons h k e r ihk ihe ihr => simp only [Pt.cnt, Pt.len, wq]; omega
theorem size_nsz {l : List ByteArray} {n : ByteArray} (h : n ∈ l) : n.size ≤ nsz l := by
 induction l with
 | nil => cases h
 | cons x l ih =>
   simp only [nsz, List.map_cons, List.sum_cons] at ih ⊢
   rcases List.mem_cons.1 h with rfl | h
   · omega
   · have := ih h; omega
theorem sm_wt (t : Pt) : ∀ n, n ≤ 16777216 → t.wf → t.len + wq t ≤ n → t.sm := by
 induction t with
 | nil => intro n _ _ _; exact trivial
 | cons h k e r ihk ihe ihr =>
   intro n hn hw hl
   obtain ⟨⟨h1, -, -, -, -, -, -⟩, hwk, hwe, hwr, -, -⟩ := hw
   simp only [Pt.len, wq, hw] at hl
   have : hw h = h.text.size + h.name.size + h.names.length + nsz h.names := rfl
   refine ⟨⟨h1, by omega, by omega, by omega, fun m hm => ?_⟩, ihk n hn hwk (by omega), ihe n hn hwe (by omega), ihr n hn hwr (by omega)⟩
   have := size_nsz hm; omega
theorem dots_wt (l : List ByteArray) : (dots (bls l)).length = l.length + nsz l := by
 induction l with
 | nil => rfl
 | cons x l ih =>
   have : bls (x :: l) = bl x :: bls l := rfl
   rw [this]
   simp only [dots, List.length_append, List.length_cons, nsz, List.map_cons, List.sum_cons] at ih ⊢
   have : (bl x).length = x.size := rfl
   omega
theorem way_wt (root : Bool) (l : List ByteArray) : (wayS root (bls l)).length ≤ 1 + l.length + nsz l := by
 have := dots_wt l
 unfold wayS
 split
 · simp; omega
 · rw [List.length_append, this]; split <;> simp <;> omega
theorem src_wt (t : Pt) : ∀ after, (t.src after).length ≤ 40 * (t.len + wq t) := by
 induction t with
 | nil => intro after; exact Nat.le_refl _
 | cons h k e r ihk ihe ihr =>
   intro after
   have h1 := ihr (decide (h.kind = 1))
   have h2 := ihk false
   have h3 := ihe false
   have h4 := way_wt h.root h.names
   have h5 : hw h = h.text.size + h.name.size + h.names.length + nsz h.names := rfl
   have h6 : (bl h.text).length = h.text.size := rfl
   have h7 : (bl h.name).length = h.name.size := rfl
   simp only [Pt.src, Pt.len, wq, List.length_append]
   have hp : (if h.kind = 1 then (if after then noteS else []) ++ bl h.text
    else if h.kind = 2 then bra ++ wayS h.root (bls h.names) ++ ket
    else if h.kind = 5 then bra ++ (kCall ++ 32 :: bl h.name ++ 32 :: wayS h.root (bls h.names)) ++ ket
    else if h.kind = 3 ∨ h.kind = 4 then
     bra ++ ((if h.kind = 4 then kRange else kIf) ++ 32 :: wayS h.root (bls h.names)) ++ ket ++ Pt.src false k ++ (if e.isNil then [] else elseS ++ Pt.src false e) ++ endS
    else []).length ≤ 40 * (1 + hw h) + 40 * (k.len + wq k) + 40 * (e.len + wq e) := by
     split
     · rw [List.length_append]; split <;> simp [noteS] <;> omega
     split
     · simp [bra, ket]; omega
     split
     · simp [bra, ket, kCall]; omega
     split
     · rw [List.length_append, List.length_append, List.length_append]
       have a1 : (bra ++ ((if h.kind = 4 then kRange else kIf) ++ 32 :: wayS h.root (bls h.names)) ++ ket).length ≤ 10 + (wayS h.root (bls h.names)).length := by
        split <;> simp [bra, ket, kRange, kIf] <;> omega
       have a2 : (if e.isNil then [] else elseS ++ Pt.src false e).length ≤ 8 + (Pt.src false e).length := by
        split
        · simp
        · rw [List.length_append]; have : elseS.length = 8 := rfl; omega
       have a3 : endS.length = 7 := rfl
       omega
     · simp
   omega
theorem srcD_wt (l : List Df) : (l.flatMap defS).length ≤ 40 * (l.length + wtD l) := by
 induction l with
 | nil => exact Nat.le_refl _
 | cons d l ih =>
   rw [List.flatMap_cons, List.length_append, wtD_cons, List.length_cons]
   have h1 := src_wt d.kids false
   have h2 : (defS d).length = d.name.size + 18 + (d.kids.src false).length := by simp [defS, bra, ket, kDef, endS, bl]; omega
   unfold wt
   omega
theorem wtD_mem {l : List Df} {d : Df} (h : d ∈ l) : d.name.size + wt d.kids ≤ wtD l := by
 induction l with
 | nil => cases h
 | cons x l ih =>
   rw [wtD_cons]
   rcases List.mem_cons.1 h with rfl | h
   · omega
   · have := ih h; omega
theorem cntD_wt (l : List Df) : (l.map fun d => d.kids.cnt).sum ≤ wtD l := by
 induction l with
 | nil => exact Nat.le_refl _
 | cons d l ih =>
   rw [wtD_cons, List.map_cons, List.sum_cons]
   have := cnt_wt d.kids
   unfold wt
   omega
theorem tmZ_of (t : Tm) (hw : TmW t) (h : wtT t ≤ 16384) : TmZ t := by
 unfold wtT wt at h
 refine ⟨sm_wt t.main 16384 (by omega) hw.main.1 (by omega), fun d hd => ?_, ?_, by omega, ?_⟩
 · have h1 := wtD_mem hd
   unfold wt at h1
   obtain ⟨q1, q2, q3⟩ := hw.defs d hd
   exact ⟨by omega, sm_wt d.kids 16384 (by omega) q2 (by omega)⟩
 · have := cnt_wt t.main
   have := cntD_wt t.defs
   omega
 · unfold Tm.src
   rw [List.length_append]
   have := src_wt t.main false
   have := srcD_wt t.defs
   omega
theorem era_isNil (t : Pt) : t.era.isNil = t.isNil := by cases t <;> rfl
theorem era_cnt (t : Pt) : t.era.cnt = t.cnt := by
 induction t with
 | nil => rfl
 | cons h k e r ihk ihe ihr => simp [Pt.era, Pt.cnt, ihk, ihe, ihr]
theorem era_deep (t : Pt) : t.era.deep = t.deep := by
 induction t with
 | nil => rfl
 | cons h k e r ihk ihe ihr => simp [Pt.era, Pt.deep, ihk, ihe, ihr, Hd.era]
theorem era_sm (t : Pt) : t.era.sm = t.sm := by
 induction t with
 | nil => rfl
 | cons h k e r ihk ihe ihr => simp [Pt.era, Pt.sm, ihk, ihe, ihr, Hd.era, Hd.sm]
theorem era_src (t : Pt) : ∀ after, t.era.src after = t.src after := by
 induction t with
 | nil => intro after; rfl
 | cons h k e r ihk ihe ihr => intro after; simp only [Pt.era, Pt.src, ihk, ihe, ihr, era_isNil, Hd.era]
theorem era_form (t : Pt) : ∀ free, t.era.form free = t.form free := by
 induction t with
 | nil => intro free; rfl
 | cons h k e r ihk ihe ihr => intro free; simp only [Pt.era, Pt.form, ihk, ihe, ihr, era_isNil, Hd.era, hdOk]
theorem era_called (defs : List Df) (t : Pt) : t.era.called defs = t.called defs := by
 induction t with
 | nil => rfl
 | cons h k e r ihk ihe ihr => simp [Pt.era, Pt.called, ihk, ihe, ihr, Hd.era]
theorem era_called2 {defs defs' : List Df} (h : defs.map Df.era = defs'.map Df.era) (t : Pt) : t.called defs = t.called defs' := by
 induction t with
 | nil => rfl
 | cons x k e r ihk ihe ihr => simp only [Pt.called, ihk, ihe, ihr, hasDef_map _ _ h]
theorem map_era {α : Type} {l l' : List Df} (f : Df → α) (hf : ∀ d, f d.era = f d) (h : l.map Df.era = l'.map Df.era) : l.map f = l'.map f := by
 have e : ∀ l : List Df, l.map f = (l.map Df.era).map f := fun l => by rw [List.map_map]; exact List.map_congr_left (fun d _ => (hf d).symm)
 rw [e, h, ← e]
theorem all_era {l l' : List Df} (f : Df → Bool) (hf : ∀ d, f d.era = f d) (h : l.map Df.era = l'.map Df.era) : l.all f = l'.all f := by
 have e : ∀ l : List Df, l.all f = (l.map f).all id := fun l => by rw [List.all_map]; rfl
 rw [e, map_era f hf h, ← e]
theorem tm_era {x y : Tm} (h : x.era = y.era) : x.main.era = y.main.era ∧ x.defs.map Df.era = y.defs.map Df.era := by
 unfold Tm.era at h; injection h with h1 h2; exact ⟨h1, h2⟩
theorem src_tm {x y : Tm} (h : x.era = y.era) : x.src = y.src := by
 obtain ⟨h1, h2⟩ := tm_era h
 unfold Tm.src
 have e1 : x.main.src false = y.main.src false := by rw [← era_src x.main, h1, era_src]
 have e2 : x.defs.flatMap defS = y.defs.flatMap defS := by
  have q : ∀ l : List Df, l.flatMap defS = (l.map defS).flatten := fun l => by rw [List.flatMap_def]
  rw [q, q, map_era defS (fun d => by simp [defS, Df.era, era_src]) h2]
 rw [e1, e2]
theorem check_tm {x y : Tm} (h : x.era = y.era) : x.check = y.check := by
 obtain ⟨h1, h2⟩ := tm_era h
 unfold Tm.check
 have e1 : x.main.form true = y.main.form true := by rw [← era_form x.main, h1, era_form]
 have e2 : x.main.deep = y.main.deep := by rw [← era_deep x.main, h1, era_deep]
 have e3 : x.main.cnt = y.main.cnt := by rw [← era_cnt x.main, h1, era_cnt]
 have e4 : x.main.called x.defs = y.main.called y.defs := by rw [era_called2 h2, ← era_called _ x.main, h1, era_called]
 have e5 : (x.defs.all fun d => nameOk (bl d.name) && d.kids.form false) = (y.defs.all fun d => nameOk (bl d.name) && d.kids.form false) := all_era _ (fun d => by simp [Df.era, era_form]) h2
 have e6 : (x.defs.map fun d => 1 + d.kids.deep) = (y.defs.map fun d => 1 + d.kids.deep) := map_era _ (fun d => by simp [Df.era, era_deep]) h2
 have e7 : (x.defs.map fun d => bl d.name) = (y.defs.map fun d => bl d.name) := map_era _ (fun d => by simp [Df.era]) h2
 have e8 : (x.defs.map fun d => d.kids.cnt) = (y.defs.map fun d => d.kids.cnt) := map_era _ (fun d => by simp [Df.era, era_cnt]) h2
 have e9 : (x.defs.all fun d => d.kids.called x.defs) = (y.defs.all fun d => d.kids.called y.defs) := by
  have q : (fun d : Df => d.kids.called x.defs) = fun d : Df => d.kids.called y.defs := funext fun d => era_called2 h2 d.kids
  rw [q]; exact all_era _ (fun d => by simp [Df.era, era_called]) h2
 rw [e1, e2, e3, e4, e5, e6, e7, e8, e9, src_tm h]
end Go.Proofs.YtepcpgdfbaklfaaGreatDoor
