/-
  Contracts of lacunaref00.SameTexts and SamePath where both are the same. The condition: at most 2 to the 47th bytes.
-/
/-
  Plain law (the round trip): what is written of a template that may be is read as that template, but for places. No program in sight, no condition.
-/
/-
  The contract of lacunaref00.SameParts where both are the same, or the same but for places. The condition: sizes of at most 2 to the 24th bytes.
-/
import Derived.Test.YtepcpgdfbaklfaaGreatDoorMgLibv
import Derived.Test.YtepcpgdfbaklfaaGreatDoorMgTp0
set_option linter.unusedSimpArgs false
set_option linter.unusedVariables false
namespace Go.Proofs.YtepcpgdfbaklfaaGreatDoor
open Go.RowKit Go.Shelf
attribute [local go_sem ↓] Go.wp_at_zero Go.wp_at_succ

theorem below_drewN {B : Nat} {w w' : World} (h : Below B w w') (n : Nat) : Below B w (w'.drewN n) := ⟨h.os, h.tape, h.output, h.size, h.block⟩
theorem Strs.lt {ok : Nat → Prop} {w : World} {v : Value} {l : List ByteArray} (h : Strs ok w v l) : Strs (fun b => ok b ∧ b < w.heap.size) w v l := by
  obtain ⟨a, c, hv, h1, h2, h3⟩ := h
  refine ⟨a, c, hv, h1, h2, fun hl => ?_⟩
  obtain ⟨b, o, ha, hb, hc⟩ := h3 hl
  obtain ⟨s, hs⟩ : ∃ s, l[0]? = some s := by cases l with
    | nil => exact absurd rfl hl
    | cons x l => exact ⟨x, rfl⟩
  exact ⟨b, o, ha, ⟨hb, lt_of_cell (hc 0 s hs)⟩, hc⟩
set_option maxHeartbeats 4000000 in
theorem sameTexts_calls (ok ok' : Nat → Prop) (l : List ByteArray) (hl : l.length ≤ 140737488351232) (v v' : Value) (w : World) (h : Strs ok w v l) (h' : Strs ok' w v' l) :
    Calls Tryz.prog 33 #[v, v'] w fun e w' => e = .returned (.bool true) ∧ Below w.heap.size w w' := by
  obtain ⟨a, c, rfl, h1, h2, h3⟩ := h.lt
  obtain ⟨a', c', rfl, h1', h2', h3'⟩ := h'.lt
  have H3 := Lib.hid h3
  have H3' := Lib.hid h3'
  clear h3 h3' h h' h2 h2' h1 h1'
  go_enter Tryz.func33, Tryz.ntmps33
  go_wp2_with fail
  go_loopw [5] (fun i wr => ∃ k : Nat, i = .int .i64 k ∧ k ≤ l.length ∧ Hid (Below w.heap.size w wr)) (fun i _ => l.length - (intOf i).toNat)
  case atStart => exact ⟨0, rfl, Nat.zero_le _, Below.refl _ _⟩
  case round =>
    obtain ⟨k, rfl, hk, HB⟩ := hrel
    by_cases hlt : k < l.length
    · have hlt' : (k : Int) < (l.length : Int) := by omega
      have hne : l ≠ [] := by intro e; rw [e] at hlt; simp at hlt
      obtain ⟨s, hsk⟩ : ∃ s, l[k]? = some s := ⟨_, List.getElem?_eq_getElem hlt⟩
      obtain ⟨b, o, rfl, ⟨-, hb⟩, hc⟩ := H3.out hne
      obtain ⟨b', o', rfl, ⟨-, hb'⟩, hc'⟩ := H3'.out hne
      have c1 : wr.cell? ⟨b, o + k, none⟩ = some (.string s) := (HB.out.cell (p := ⟨b, o + k, none⟩) hb).trans (hc k s hsk)
      have c2 : wr.cell? ⟨b', o' + k, none⟩ = some (.string s) := (HB.out.cell (p := ⟨b', o' + k, none⟩) hb').trans (hc' k s hsk)
      have hk0 : (0 : Int) ≤ (k : Int) := by omega
      clear hc hc' hsk hlt hne
      go_wp2_with fail
      go_quiet (fail)
      go_wp2_with fail
      go_roundw
      case rel => exact ⟨k + 1, by go_num, by omega, below_drewN HB.out _⟩
      case measure => simp [intOf]; omega
    · have hge : ¬ (k : Int) < (l.length : Int) := by omega
      go_wp2_with fail
      go_ret
      exact ⟨rfl, HB.out⟩
set_option maxHeartbeats 4000000 in
theorem samePath_calls (ok ok' : Nat → Prop) (root : Bool) (l : List ByteArray) (hl : l.length ≤ 140737488351232) (v v' : Value) (w : World) (h : Strs ok w v l) (h' : Strs ok' w v' l) :
    Calls Tryz.prog 53 #[.agg #[.bool root, v], .agg #[.bool root, v']] w fun e w' => e = .returned (.bool true) ∧ Below w.heap.size w w' := by
  have HB0 : Hid (Below w.heap.size w ((w.alloc (.cells #[.bool root, v] 54)).alloc (.cells #[.bool root, v'] 54))) := ((Below.refl _ _).alloc (Nat.le_refl _) _).alloc (by simp) _
  have H1 := Lib.hid h.lt
  have H2 := Lib.hid h'.lt
  have SC : Hid (∀ W, Below w.heap.size w W → Calls Tryz.prog 33 #[v, v'] W fun e w' => e = .returned (.bool true) ∧ Below W.heap.size W w') := fun W hW =>
    sameTexts_calls (fun b => ok b ∧ b < w.heap.size) (fun b => ok' b ∧ b < w.heap.size) l hl v v' W (H1.out.kept (fun b hb => hW.block b hb.2)) (H2.out.kept (fun b hb => hW.block b hb.2))
  obtain ⟨a, c, rfl, -⟩ := h
  obtain ⟨a', c', rfl, -⟩ := h'
  clear H1 H2
  go_enter Tryz.func53, Tryz.ntmps53
  go_wp2_with (go_at_call 33; refine (SC.out _ HB0.out).mono ?_; rintro e w1 ⟨rfl, hb1⟩; have HB1 := Lib.hid (HB0.out.trans (hb1.mono HB0.out.size)); clear hb1)
  go_ret
  exact ⟨rfl, HB1.out⟩
end Go.Proofs.YtepcpgdfbaklfaaGreatDoor
namespace Go.Proofs.YtepcpgdfbaklfaaGreatDoor

/-! ### A template -/
theorem check_ok (t : Tm) (h : t.check = 0) : t.main.form true = true ∧ (∀ d ∈ t.defs, nameOk (bl d.name) = true ∧ d.kids.form false = true) ∧ t.main.deep ≤ 64 ∧ (∀ d ∈ t.defs, 1 + d.kids.deep ≤ 64) ∧
    twice (t.defs.map fun d => bl d.name) = false ∧ t.main.called t.defs = true ∧ (∀ d ∈ t.defs, d.kids.called t.defs = true) ∧ t.main.cnt + (t.defs.map fun d => d.kids.cnt).sum ≤ 1024 ∧ t.src.length ≤ 16384 := by
  unfold Tm.check at h
  split at h; · cases h
  rename_i h1
  split at h; · cases h
  rename_i h2
  split at h; · cases h
  rename_i h3
  split at h; · cases h
  rename_i h4
  split at h; · cases h
  rename_i h5
  simp only [Bool.not_eq_false, Bool.and_eq_true, List.all_eq_true] at h1 h4
  have hmax : ∀ (l : List Nat) (x : Nat), x ∈ l → x ≤ l.foldr max 0 := by
    intro l
    induction l with
    | nil => intro x hx; cases hx
    | cons y l ih =>
      intro x hx
      rcases List.mem_cons.1 hx with rfl | hx
      · exact Nat.le_max_left _ _
      · exact Nat.le_trans (ih x hx) (Nat.le_max_right _ _)
  refine ⟨h1.1, h1.2, ?_, ?_, by simpa using h3, h4.1, h4.2, by omega, by omega⟩
  · have := Nat.le_max_left t.main.deep ((t.defs.map fun d => 1 + d.kids.deep).foldr max 0); omega
  · intro d hd
    have := hmax _ _ (List.mem_map_of_mem (f := fun d : Df => 1 + d.kids.deep) hd)
    have := Nat.le_max_right t.main.deep ((t.defs.map fun d => 1 + d.kids.deep).foldr max 0)
    omega
/-- Templates without their places. -/
def Df.era (d : Df) : Df := ⟨d.name, 0, d.kids.era⟩
def Tm.era (t : Tm) : Tm := ⟨t.main.era, t.defs.map Df.era⟩
theorem hasDef_map (l l' : List Df) (h : l.map Df.era = l'.map Df.era) (n : By) : hasDef l n = hasDef l' n := by
  have e : ∀ l : List Df, hasDef l n = (l.map Df.era).any fun d => bl d.name == n := fun l => by
    unfold hasDef; rw [List.any_map]; rfl
  rw [e, e, h]
end Go.Proofs.YtepcpgdfbaklfaaGreatDoor
set_option linter.unusedSimpArgs false
set_option linter.unusedVariables false
namespace Go.Proofs.YtepcpgdfbaklfaaGreatDoor
open Go.RowKit Go.Shelf
attribute [local go_sem ↓] Go.wp_at_zero Go.wp_at_succ

theorem Row.lt {ok : Nat → Prop} {w : World} : ∀ (t : Pt) (b o : Nat), Row ok w t b o → Row (fun b => ok b ∧ b < w.heap.size) w t b o := by
  intro t
  induction t with
  | nil => intro b o _; exact trivial
  | cons h k e r ihk ihe ihr =>
    rintro b o ⟨⟨c0, c1, c2, c3, ⟨v, c4, hs⟩, c5⟩, ⟨ak, ck, c6, k1, k2, k3⟩, ⟨ae, ce, c7, e1, e2, e3⟩, hrest⟩
    have hl : ∀ (q : Pt) (b' o' : Nat), q ≠ .nil → Row ok w q b' o' → b' < w.heap.size := by
      intro q b' o' hq hr
      cases q with
      | nil => exact absurd rfl hq
      | cons _ _ _ _ => exact lt_of_cell hr.1.1
    refine ⟨⟨c0, c1, c2, c3, ⟨v, c4, hs.lt⟩, c5⟩, ⟨ak, ck, c6, k1, k2, fun hn => ?_⟩, ⟨ae, ce, c7, e1, e2, fun hn => ?_⟩, ihr b _ hrest⟩
    · obtain ⟨b', o', h1, h2, h3⟩ := k3 hn
      exact ⟨b', o', h1, ⟨h2, hl _ _ _ hn h3⟩, ihk b' o' h3⟩
    · obtain ⟨b', o', h1, h2, h3⟩ := e3 hn
      exact ⟨b', o', h1, ⟨h2, hl _ _ _ hn h3⟩, ihe b' o' h3⟩
theorem Parts.lt {ok : Nat → Prop} {w : World} {v : Value} {t : Pt} (h : Parts ok w v t) : Parts (fun b => ok b ∧ b < w.heap.size) w v t := by
  obtain ⟨a, c, hv, h1, h2, h3⟩ := h
  refine ⟨a, c, hv, h1, h2, fun hl => ?_⟩
  obtain ⟨b, o, ha, hb, hc⟩ := h3 hl
  refine ⟨b, o, ha, ⟨hb, ?_⟩, hc.lt⟩
  cases t with
  | nil => exact absurd rfl hl
  | cons _ _ _ _ => exact lt_of_cell hc.1.1
theorem Parts.below {w w' : World} {ok : Nat → Prop} {v : Value} {t : Pt} {B : Nat} (h : Parts (fun b => ok b ∧ b < B) w v t) (hb : Below B w w') : Parts (fun b => ok b ∧ b < B) w' v t := h.kept (fun b hk => hb.block b hk.2)
theorem era_len {x y : Pt} (h : x.era = y.era) : x.len = y.len := by
  have e : ∀ t : Pt, t.era.len = t.len := by
    intro t
    induction t with
    | nil => rfl
    | cons h k e r _ _ ih => simp [Pt.era, Pt.len, ih]
  rw [← e x, h, e y]
/-- A part's block, with its place. -/
structure PcCs (P : Nat) (h : Hd) (vn vk ve : Value) (w : World) : Prop where
  p0 : w.cell? ⟨P, 0, none⟩ = some (.int .u8 (h.kind : Nat))
  p1 : w.cell? ⟨P, 1, none⟩ = some (.int .i64 h.pos)
  p2 : w.cell? ⟨P, 2, none⟩ = some (.string h.text)
  p3 : w.cell? ⟨P, 3, none⟩ = some (.bool h.root)
  p4 : w.cell? ⟨P, 4, none⟩ = some vn
  p5 : w.cell? ⟨P, 5, none⟩ = some (.string h.name)
  p6 : w.cell? ⟨P, 6, none⟩ = some vk
  p7 : w.cell? ⟨P, 7, none⟩ = some ve
theorem pcCs {P : Nat} {h : Hd} {vn vk ve : Value} {w : World} (hp : w.heap[P]? = some (.cells (pCells h vn vk ve) 56 (0, 0))) : PcCs P h vn vk ve w :=
  ⟨by rw [cell_of_heap' hp]; rfl, by rw [cell_of_heap' hp]; rfl, by rw [cell_of_heap' hp]; rfl, by rw [cell_of_heap' hp]; rfl, by rw [cell_of_heap' hp]; rfl, by rw [cell_of_heap' hp]; rfl, by rw [cell_of_heap' hp]; rfl, by rw [cell_of_heap' hp]; rfl⟩
def SpSaid (n : Nat) : Prop := ∀ (x y : Pt), x.cnt < n → x.era = y.era → ∀ (pl : Bool), (pl = true → x = y) → ∀ (ok ok' : Nat → Prop) (v v' : Value) (w : World), x.sm → x.cnt ≤ 16777216 → Parts ok w v x → Parts ok' w v' y →
  Calls Tryz.prog 32 #[v, v', .bool pl] w fun e w' => e = .returned (.bool true) ∧ Below w.heap.size w w'
/-- What the loop knows of a list's rest. -/
def Rest (ok : Nat → Prop) (a : Option Addr) (w : World) (r : Pt) (k : Nat) : Prop := r ≠ .nil → ∃ b o, a = some ⟨b, o, none⟩ ∧ (ok b ∧ b < w.heap.size) ∧ Row (fun b => ok b ∧ b < w.heap.size) w r b (o + k * 8)
set_option maxRecDepth 100000 in
set_option maxHeartbeats 40000000 in
theorem sp_step (n : Nat) (ih : SpSaid n) : SpSaid (n + 1) := by
  intro x y hn he pl hpl ok ok' v v' w hsm hcnt hx hy
  have hlen := era_len he
  obtain ⟨a, c, rfl, h1, h2, h3⟩ := hx.lt
  obtain ⟨a', c', rfl, h1', h2', h3'⟩ := hy.lt
  have HX : Hid (Rest ok a w x 0) := fun hne => by
    obtain ⟨b, o, q1, q2, q3⟩ := h3 hne
    exact ⟨b, o, q1, q2, by rw [Nat.zero_mul, Nat.add_zero]; exact q3⟩
  have HY : Hid (Rest ok' a' w y 0) := fun hne => by
    obtain ⟨b, o, q1, q2, q3⟩ := h3' hne
    exact ⟨b, o, q1, q2, by rw [Nat.zero_mul, Nat.add_zero]; exact q3⟩
  have hlc := len_le_cnt x
  have HPL := Lib.hid hpl
  have HEE := Lib.hid he
  have HSM := Lib.hid hsm
  have IH := Lib.hid ih
  have HLEN := Lib.hid hlen
  have hly : (y.len : Int) = (x.len : Int) := by rw [hlen]
  rw [← hlen]
  clear h3 h3' hx hy h1 h2 h1' h2' hpl he hsm ih hlen hly
  go_enter Tryz.func32, Tryz.ntmps32
  go_wp2_with fail
  go_loopw [7] (fun i wr => ∃ (k : Nat) (r s : Pt), i = .int .i64 k ∧ k + r.len = x.len ∧ Hid (Below w.heap.size w wr) ∧ Hid (Rest ok a w r k) ∧ Hid (Rest ok' a' w s k) ∧ Hid (r.era = s.era) ∧ Hid (pl = true → r = s) ∧ r.cnt ≤ x.cnt ∧ Hid r.sm) (fun i _ => x.len - (intOf i).toNat)
  case atStart => exact ⟨0, x, y, rfl, by omega, Below.refl _ _, HX, HY, HEE, HPL, Nat.le_refl _, HSM⟩
  case round =>
    obtain ⟨k, r, s, rfl, hk, HB, HRX, HRY, HE, HP, hcn, HS⟩ := hrel
    cases r with
    | nil =>
      simp only [Pt.len] at hk
      have hge : ¬ (k : Int) < (x.len : Int) := by omega
      go_wp2_with fail
      go_ret
      exact ⟨rfl, HB.out⟩
    | cons h kd el r =>
      cases s with
      | nil => have := HE.out; simp [Pt.era] at this
      | cons h' kd' el' s =>
        obtain ⟨b, o, rfl, hb, hrow⟩ := HRX.out (by simp)
        obtain ⟨b', o', rfl, hb', hrow'⟩ := HRY.out (by simp)
        simp only [Pt.len] at hk
        simp only [Pt.cnt] at hcn
        have hkt : (k : Int) < (x.len : Int) := by omega
        have hk0 : (0 : Int) ≤ (k : Int) := by omega
        obtain ⟨hsmh, hsmk, hsme, hsmr⟩ := HS.out
        obtain ⟨s0, -, -, s3, -⟩ := hsmh
        have he4 := HE.out
        simp only [Pt.era, Pt.cons.injEq] at he4
        obtain ⟨eh, ek, ee, er⟩ := he4
        obtain ⟨pos', rfl⟩ : ∃ p, h' = { h with pos := p } := ⟨h'.pos, by
          unfold Hd.era at eh
          injection eh with q1 q2 q3 q4 q5 q6
          cases h'; cases h; simp_all⟩
        have HPK : Hid (pl = true → kd = kd' ∧ el = el' ∧ r = s ∧ h.pos = pos') := fun e => by
          have := HP.out e
          injection this with q1 q2 q3 q4
          exact ⟨q2, q3, q4, by rw [q1]⟩
        have HEK : Hid (kd.era = kd'.era ∧ el.era = el'.era ∧ r.era = s.era) := ⟨ek, ee, er⟩
        have HRS : Hid (Rest ok (some ⟨b, o, none⟩) w r (k + 1)) := fun _ => ⟨b, o, rfl, hb, by have := hrow.2.2.2; rwa [show o + k * 8 + 8 = o + (k + 1) * 8 by omega] at this⟩
        have HSS : Hid (Rest ok' (some ⟨b', o', none⟩) w s (k + 1)) := fun _ => ⟨b', o', rfl, hb', by have := hrow'.2.2.2; rwa [show o' + k * 8 + 8 = o' + (k + 1) * 8 by omega] at this⟩
        obtain ⟨⟨g0, g1, g2, g3, ⟨vn, g4, hstr⟩, g5⟩, ⟨ak, ck, g6, k1, k2, k3⟩, ⟨ae, ce, g7, e1, e2, e3⟩, -⟩ := Row.kept (fun b hk => HB.out.block b hk.2) _ _ _ hb hrow
        obtain ⟨⟨g0', g1', g2', g3', ⟨vn', g4', hstr'⟩, g5'⟩, ⟨ak', ck', g6', k1', k2', k3'⟩, ⟨ae', ce', g7', e1', e2', e3'⟩, -⟩ := Row.kept (fun b hk => HB.out.block b hk.2) _ _ _ hb' hrow'
        have hsz := HB.out.size
        have PC : Hid (∀ W, Below wr.heap.size wr W → Calls Tryz.prog 53 #[.agg #[.bool h.root, vn], .agg #[.bool h.root, vn']] W fun e w' => e = .returned (.bool true) ∧ Below W.heap.size W w') := fun W hW =>
          samePath_calls (fun b => ok b ∧ b < w.heap.size) (fun b => ok' b ∧ b < w.heap.size) h.root h.names (by omega) vn vn' W (hstr.kept (fun b hb => hW.block b (by have := hb.2; omega))) (hstr'.kept (fun b hb => hW.block b (by have := hb.2; omega)))
        have KC : Hid (∀ W, Below wr.heap.size wr W → Calls Tryz.prog 32 #[.slice ak kd.len ck, .slice ak' kd'.len ck', .bool pl] W fun e w' => e = .returned (.bool true) ∧ Below W.heap.size W w') := fun W hW =>
          IH.out kd kd' (by omega) ek pl (fun e => (HPK.out e).1) (fun b => ok b ∧ b < w.heap.size) (fun b => ok' b ∧ b < w.heap.size) _ _ W hsmk (by omega) (Parts.kept ⟨ak, ck, rfl, k1, k2, k3⟩ (fun b hb => hW.block b (by have := hb.2; omega))) (Parts.kept ⟨ak', ck', rfl, k1', k2', k3'⟩ (fun b hb => hW.block b (by have := hb.2; omega)))
        have EC : Hid (∀ W, Below wr.heap.size wr W → Calls Tryz.prog 32 #[.slice ae el.len ce, .slice ae' el'.len ce', .bool pl] W fun e w' => e = .returned (.bool true) ∧ Below W.heap.size W w') := fun W hW =>
          IH.out el el' (by omega) ee pl (fun e => (HPK.out e).2.1) (fun b => ok b ∧ b < w.heap.size) (fun b => ok' b ∧ b < w.heap.size) _ _ W hsme (by omega) (Parts.kept ⟨ae, ce, rfl, e1, e2, e3⟩ (fun b hb => hW.block b (by have := hb.2; omega))) (Parts.kept ⟨ae', ce', rfl, e1', e2', e3'⟩ (fun b hb => hW.block b (by have := hb.2; omega)))
        obtain ⟨an, cn, rfl, n1, n2, -⟩ := hstr
        obtain ⟨an', cn', rfl, n1', n2', -⟩ := hstr'
        have HKI := Lib.hid hk
        have HSR := Lib.hid hsmr
        have hki : k + 1 + r.len ≤ x.len := by omega
        clear k3 e3 k3' e3' hrow hrow' hsmk hsme hsmr ek ee er eh hk HRX HRY HS HE
        have HW0 : Hid (Below wr.heap.size wr ((wr.alloc (.cells (pCells h (.slice an h.names.length cn) (.slice ak kd.len ck) (.slice ae el.len ce)) 56 (0, 0))).alloc (.cells (pCells { h with pos := pos' } (.slice an' h.names.length cn') (.slice ak' kd'.len ck') (.slice ae' el'.len ce')) 56 (0, 0)))) :=
          ((Below.refl wr.heap.size wr).alloc (Nat.le_refl _) _).alloc (by simp) _
        have HP1 : Hid (∀ W, Below (wr.heap.size + 2) ((wr.alloc (.cells (pCells h (.slice an h.names.length cn) (.slice ak kd.len ck) (.slice ae el.len ce)) 56 (0, 0))).alloc (.cells (pCells { h with pos := pos' } (.slice an' h.names.length cn') (.slice ak' kd'.len ck') (.slice ae' el'.len ce')) 56 (0, 0))) W →
            PcCs wr.heap.size h (.slice an h.names.length cn) (.slice ak kd.len ck) (.slice ae el.len ce) W ∧ PcCs (wr.heap.size + 1) { h with pos := pos' } (.slice an' h.names.length cn') (.slice ak' kd'.len ck') (.slice ae' el'.len ce') W) := fun W hW => by
          have q := two_new (w := wr) (x := .cells (pCells h (.slice an h.names.length cn) (.slice ak kd.len ck) (.slice ae el.len ce)) 56 (0, 0)) (y := .cells (pCells { h with pos := pos' } (.slice an' h.names.length cn') (.slice ak' kd'.len ck') (.slice ae' el'.len ce')) 56 (0, 0)) (w1 := W) (hW.mono (by simp))
          exact ⟨pcCs q.1, pcCs q.2.1⟩
        have HSZ0 : Hid (((wr.alloc (.cells (pCells h (.slice an h.names.length cn) (.slice ak kd.len ck) (.slice ae el.len ce)) 56 (0, 0))).alloc (.cells (pCells { h with pos := pos' } (.slice an' h.names.length cn') (.slice ak' kd'.len ck') (.slice ae' el'.len ce')) 56 (0, 0))).heap.size = wr.heap.size + 2) := by unfold Hid; simp
        have hbl : b < wr.heap.size := by have := hb.2; omega
        have hbl' : b' < wr.heap.size := by have := hb'.2; omega
        unfold pCells at HW0 HP1 HSZ0
        dsimp only at HW0 HP1 HSZ0
        go_upto_region 8 with (fail)
        clear g0 g1 g2 g3 g4 g5 g6 g7 g0' g1' g2' g3' g4' g5' g6' g7'
        generalize hWW : World.alloc (World.alloc wr _) _ = W0 at *
        clear hWW
        obtain ⟨⟨p0, p1, p2, p3, p4, p5, p6, p7⟩, ⟨q0, q1, q2, q3, q4, q5, q6, q7⟩⟩ := HP1.out _ (Below.refl _ _)
        dsimp only at q0 q1 q2 q3 q5
        go_wp2_with fail
        refine (PC.out _ HW0.out).mono ?_
        rintro e w1 ⟨rfl, hb1⟩
        have HW1 : Hid (Below (wr.heap.size + 2) W0 w1) := hb1.mono (by rw [HSZ0.out]; exact Nat.le_refl _)
        clear hb1 p0 p1 p2 p3 p4 p5 p6 p7 q0 q1 q2 q3 q4 q5 q6 q7
        obtain ⟨⟨p0, p1, p2, p3, p4, p5, p6, p7⟩, ⟨q0, q1, q2, q3, q4, q5, q6, q7⟩⟩ := HP1.out _ HW1.out
        dsimp only at q0 q1 q2 q3 q5
        go_wp2_with fail
        refine (KC.out _ (HW0.out.trans (HW1.out.mono (by omega)))).mono ?_
        rintro e w2 ⟨rfl, hb2⟩
        have HW2 : Hid (Below (wr.heap.size + 2) W0 w2) := HW1.out.trans (hb2.mono (by have := HW1.out.size; rw [HSZ0.out] at this; exact this))
        clear hb2 p0 p1 p2 p3 p4 p5 p6 p7 q0 q1 q2 q3 q4 q5 q6 q7
        obtain ⟨⟨p0, p1, p2, p3, p4, p5, p6, p7⟩, ⟨q0, q1, q2, q3, q4, q5, q6, q7⟩⟩ := HP1.out _ HW2.out
        dsimp only at q0 q1 q2 q3 q5
        go_wp2_with fail
        refine (EC.out _ (HW0.out.trans (HW2.out.mono (by omega)))).mono ?_
        rintro e w3 ⟨rfl, hb3⟩
        have HW3 : Hid (Below (wr.heap.size + 2) W0 w3) := HW2.out.trans (hb3.mono (by have := HW2.out.size; rw [HSZ0.out] at this; exact this))
        clear hb3 p0 p1 p2 p3 p4 p5 p6 p7 q0 q1 q2 q3 q4 q5 q6 q7
        obtain ⟨⟨p0, p1, p2, p3, p4, p5, p6, p7⟩, ⟨q0, q1, q2, q3, q4, q5, q6, q7⟩⟩ := HP1.out _ HW3.out
        dsimp only at q0 q1 q2 q3 q5
        have HB4 : Hid (Below w.heap.size w w3) := HB.out.trans ((HW0.out.mono hsz).trans (HW3.out.mono (by omega)))
        cases pl with
        | false =>
          go_wp2_with fail
          go_roundw
          case rel => exact ⟨k + 1, r, s, by go_num, by have := HKI.out; omega, HB4, HRS, HSS, HEK.out.2.2, (fun e => absurd e (by decide)), by omega, HSR⟩
          case measure => simp [intOf]; omega
        | true =>
          have hpp := (HPK.out rfl).2.2.2
          subst hpp
          go_wp2_with fail
          go_roundw
          case rel => exact ⟨k + 1, r, s, by go_num, by have := HKI.out; omega, HB4, HRS, HSS, HEK.out.2.2, fun e => (HPK.out e).2.2.1, by omega, HSR⟩
          case measure => simp [intOf]; omega
theorem sp_all (n : Nat) : SpSaid n := by
  induction n with
  | zero => intro x y h; exact absurd h (Nat.not_lt_zero _)
  | succ n ih => exact sp_step n ih
theorem sameParts_calls (x y : Pt) (he : x.era = y.era) (pl : Bool) (hpl : pl = true → x = y) (ok ok' : Nat → Prop) (v v' : Value) (w : World) (hsm : x.sm) (hcnt : x.cnt ≤ 16777216) (hx : Parts ok w v x) (hy : Parts ok' w v' y) :
    Calls Tryz.prog 32 #[v, v', .bool pl] w fun e w' => e = .returned (.bool true) ∧ Below w.heap.size w w' :=
  sp_all (x.cnt + 1) x y (Nat.lt_succ_self _) he pl hpl ok ok' v v' w hsm hcnt hx hy
end Go.Proofs.YtepcpgdfbaklfaaGreatDoor
