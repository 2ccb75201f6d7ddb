/- Contracts of lacunaref00.SameTexts and SamePath where both are the same. The condition: at most 2 to the 47th bytes. -/
import Derived.Test.YtepcpgdfbaklfaaGreatDoorMcLibv
import Derived.Test.YtepcpgdfbaklfaaGreatDoorMcTp0
import Derived.Test.YtepcpgdfbaklfaaGreatDoorMcTso
import Derived.StillTailTactics
set_option linter.unusedSimpArgs false
set_option linter.unusedVariables false
namespace Go.Proofs.YtepcpgdfbaklfaaGreatDoor
open Go.RowKit Go.Shelf
attribute [local go_sem ↓] Go.wp_at_zero Go.wp_at_succ
theorem below_drewN {B : Nat} {w w' : World} (h : Below B w w') (n : Nat) : Below B w (w'.drewN n) := ⟨h.os, h.tape, h.output, h.size, h.block⟩
theorem Strs.lt {ok : Nat → Prop} {w : World} {v : Value} {l : List ByteArray} (h : Strs ok w v l) : Strs (fun b => ok b ∧ b < w.heap.size) w v l := by
 obtain ⟨a, c, hv, h1, h2, h3⟩ := h
 refine ⟨a, c, hv, h1, h2, fun hl => ?_⟩
 obtain ⟨b, o, ha, hb, hc⟩ := h3 hl
 obtain ⟨s, hs⟩ : ∃ s, l[0]? = some s := by cases l with
  | nil => exact absurd rfl hl
  | cons x l => exact ⟨x, rfl⟩
 exact ⟨b, o, ha, ⟨hb, lt_of_cell (hc 0 s hs)⟩, hc⟩
set_option maxHeartbeats 4000000 in
theorem sameTexts_calls (ok ok' : Nat → Prop) (l : List ByteArray) (hl : l.length ≤ 140737488351232) (v v' : Value) (w : World) (h : Strs ok w v l) (h' : Strs ok' w v' l) :
 Calls Tryz.prog 33 #[v, v'] w fun e w' => e = .returned (.bool true) ∧ Below w.heap.size w w' := by
 obtain ⟨a, c, rfl, h1, h2, h3⟩ := h.lt
 obtain ⟨a', c', rfl, h1', h2', h3'⟩ := h'.lt
 have H3 := Lib.hid h3
 have H3' := Lib.hid h3'
 clear h3 h3' h h' h2 h2' h1 h1'
 go_enter Tryz.func33, Tryz.ntmps33
 go_wp2_with fail
 go_loopw [5] (fun i wr => ∃ k : Nat, i = .int .i64 k ∧ k ≤ l.length ∧ Hid (Below w.heap.size w wr)) (fun i _ => l.length - (intOf i).toNat)
 case atStart => exact ⟨0, rfl, Nat.zero_le _, Below.refl _ _⟩
 case round =>
  obtain ⟨k, rfl, hk, HB⟩ := hrel
  by_cases hlt : k < l.length
  · have hlt' : (k : Int) < (l.length : Int) := by omega
    have hne : l ≠ [] := by intro e; rw [e] at hlt; simp at hlt
    obtain ⟨s, hsk⟩ : ∃ s, l[k]? = some s := ⟨_, List.getElem?_eq_getElem hlt⟩
    obtain ⟨b, o, rfl, ⟨-, hb⟩, hc⟩ := H3.out hne
    obtain ⟨b', o', rfl, ⟨-, hb'⟩, hc'⟩ := H3'.out hne
    have c1 : wr.cell? ⟨b, o + k, none⟩ = some (.string s) := (HB.out.cell (p := ⟨b, o + k, none⟩) hb).trans (hc k s hsk)
    have c2 : wr.cell? ⟨b', o' + k, none⟩ = some (.string s) := (HB.out.cell (p := ⟨b', o' + k, none⟩) hb').trans (hc' k s hsk)
    have hk0 : (0 : Int) ≤ (k : Int) := by omega
    clear hc hc' hsk hlt hne
    go_wp2_with fail
    go_quiet (fail)
    go_wp2_with fail
    go_roundw
    case rel => exact ⟨k + 1, by go_num, by omega, below_drewN HB.out _⟩
    case measure => simp [intOf]; omega
  · have hge : ¬ (k : Int) < (l.length : Int) := by omega
    go_wp2_with fail
    go_ret
    exact ⟨rfl, HB.out⟩
set_option maxHeartbeats 4000000 in
theorem samePath_calls (ok ok' : Nat → Prop) (root : Bool) (l : List ByteArray) (hl : l.length ≤ 140737488351232) (v v' : Value) (w : World) (h : Strs ok w v l) (h' : Strs ok' w v' l) :
 Calls Tryz.prog 53 #[.agg #[.bool root, v], .agg #[.bool root, v']] w fun e w' => e = .returned (.bool true) ∧ Below w.heap.size w w' := by
 have HB0 : Hid (Below w.heap.size w ((w.alloc (.cells #[.bool root, v] 54)).alloc (.cells #[.bool root, v'] 54))) := ((Below.refl _ _).alloc (Nat.le_refl _) _).alloc (by simp) _
 have H1 := Lib.hid h.lt
 have H2 := Lib.hid h'.lt
 have SC : Hid (∀ W, Below w.heap.size w W → Calls Tryz.prog 33 #[v, v'] W fun e w' => e = .returned (.bool true) ∧ Below W.heap.size W w') := fun W hW =>
  sameTexts_calls (fun b => ok b ∧ b < w.heap.size) (fun b => ok' b ∧ b < w.heap.size) l hl v v' W (H1.out.kept (fun b hb => hW.block b hb.2)) (H2.out.kept (fun b hb => hW.block b hb.2))
 obtain ⟨a, c, rfl, -⟩ := h
 obtain ⟨a', c', rfl, -⟩ := h'
 clear H1 H2
 go_enter Tryz.func53, Tryz.ntmps53
 go_wp2_with (go_at_call 33; refine (SC.out _ HB0.out).mono ?_; rintro e w1 ⟨rfl, hb1⟩; have HB1 := Lib.hid (HB0.out.trans (hb1.mono HB0.out.size)); clear hb1)
 go_ret
 exact ⟨rfl, HB1.out⟩
theorem check_ok (t : Tm) (h : t.check = 0) : t.main.form true = true ∧ (∀ d ∈ t.defs, nameOk (bl d.name) = true ∧ d.kids.form false = true) ∧ t.main.deep ≤ 64 ∧ (∀ d ∈ t.defs, 1 + d.kids.deep ≤ 64) ∧
 twice (t.defs.map fun d => bl d.name) = false ∧ t.main.called t.defs = true ∧ (∀ d ∈ t.defs, d.kids.called t.defs = true) ∧ t.main.cnt + (t.defs.map fun d => d.kids.cnt).sum ≤ 1024 ∧ t.src.length ≤ 16384 := by
 unfold Tm.check at h
 split at h; · cases h
 rename_i h1
 split at h; · cases h
 rename_i h2
 split at h; · cases h
 rename_i h3
 split at h; · cases h
 rename_i h4
 split at h; · cases h
 rename_i h5
 simp only [Bool.not_eq_false, Bool.and_eq_true, List.all_eq_true] at h1 h4
 have hmax : ∀ (l : List Nat) (x : Nat), x ∈ l → x ≤ l.foldr max 0 := by
  intro l
  induction l with
  | nil => intro x hx; cases hx
  | cons y l ih =>
    intro x hx
    rcases List.mem_cons.1 hx with rfl | hx
    · exact Nat.le_max_left _ _
    · exact Nat.le_trans (ih x hx) (Nat.le_max_right _ _)
 refine ⟨h1.1, h1.2, ?_, ?_, by simpa using h3, h4.1, h4.2, by omega, by omega⟩
 · have := Nat.le_max_left t.main.deep ((t.defs.map fun d => 1 + d.kids.deep).foldr max 0); omega
 · intro d hd
   have := hmax _ _ (List.mem_map_of_mem (f := fun d : Df => 1 + d.kids.deep) hd)
   have := Nat.le_max_right t.main.deep ((t.defs.map fun d => 1 + d.kids.deep).foldr max 0)
   omega
def Df.era (d : Df) : Df := ⟨d.name, 0, d.kids.era⟩
def Tm.era (t : Tm) : Tm := ⟨t.main.era, t.defs.map Df.era⟩
theorem hasDef_map (l l' : List Df) (h : l.map Df.era = l'.map Df.era) (n : By) : hasDef l n = hasDef l' n := by
 have e : ∀ l : List Df, hasDef l n = (l.map Df.era).any fun d => bl d.name == n := fun l => by
  unfold hasDef; rw [List.any_map]; rfl
 rw [e, e, h]
theorem hasDef_mem (l : List Df) (n : By) : hasDef l n = (l.map fun d => bl d.name).contains n := by
 unfold hasDef
 rw [Bool.eq_iff_iff, List.any_eq_true]
 simp [List.mem_map]
theorem Row.lt {ok : Nat → Prop} {w : World} : ∀ (t : Pt) (b o : Nat), Row ok w t b o → Row (fun b => ok b ∧ b < w.heap.size) w t b o := by
 intro t
 induction t with
 | nil => intro b o _; exact trivial
 | cons h k e r ihk ihe ihr =>
   rintro b o ⟨⟨c0, c1, c2, c3, ⟨v, c4, hs⟩, c5⟩, ⟨ak, ck, c6, k1, k2, k3⟩, ⟨ae, ce, c7, e1, e2, e3⟩, hrest⟩
   have hl : ∀ (q : Pt) (b' o' : Nat), q ≠ .nil → Row ok w q b' o' → b' < w.heap.size := by
    intro q b' o' hq hr
    cases q with
    | nil => exact absurd rfl hq
    | cons _ _ _ _ => exact lt_of_cell hr.1.1
   refine ⟨⟨c0, c1, c2, c3, ⟨v, c4, hs.lt⟩, c5⟩, ⟨ak, ck, c6, k1, k2, fun hn => ?_⟩, ⟨ae, ce, c7, e1, e2, fun hn => ?_⟩, ihr b _ hrest⟩
   · obtain ⟨b', o', h1, h2, h3⟩ := k3 hn
     exact ⟨b', o', h1, ⟨h2, hl _ _ _ hn h3⟩, ihk b' o' h3⟩
   · obtain ⟨b', o', h1, h2, h3⟩ := e3 hn
     exact ⟨b', o', h1, ⟨h2, hl _ _ _ hn h3⟩, ihe b' o' h3⟩
theorem Parts.lt {ok : Nat → Prop} {w : World} {v : Value} {t : Pt} (h : Parts ok w v t) : Parts (fun b => ok b ∧ b < w.heap.size) w v t := by
 obtain ⟨a, c, hv, h1, h2, h3⟩ := h
 refine ⟨a, c, hv, h1, h2, fun hl => ?_⟩
 obtain ⟨b, o, ha, hb, hc⟩ := h3 hl
 refine ⟨b, o, ha, ⟨hb, ?_⟩, hc.lt⟩
 cases t with
 | nil => exact absurd rfl hl
 | cons _ _ _ _ => exact lt_of_cell hc.1.1
theorem Parts.below {w w' : World} {ok : Nat → Prop} {v : Value} {t : Pt} {B : Nat} (h : Parts (fun b => ok b ∧ b < B) w v t) (hb : Below B w w') : Parts (fun b => ok b ∧ b < B) w' v t := h.kept (fun b hk => hb.block b hk.2)
theorem era_len {x y : Pt} (h : x.era = y.era) : x.len = y.len := by
 have e : ∀ t : Pt, t.era.len = t.len := by
  intro t
  induction t with
  | nil => rfl
  | cons h k e r _ _ ih => simp [Pt.era, Pt.len, ih]
 rw [← e x, h, e y]
structure PcCs (P : Nat) (h : Hd) (vn vk ve : Value) (w : World) : Prop where
 p0 : w.cell? ⟨P, 0, none⟩ = some (.int .u8 (h.kind : Nat))
 p1 : w.cell? ⟨P, 1, none⟩ = some (.int .i64 h.pos)
 p2 : w.cell? ⟨P, 2, none⟩ = some (.string h.text)
 p3 : w.cell? ⟨P, 3, none⟩ = some (.bool h.root)
 p4 : w.cell? ⟨P, 4, none⟩ = some vn
 p5 : w.cell? ⟨P, 5, none⟩ = some (.string h.name)
 p6 : w.cell? ⟨P, 6, none⟩ = some vk
 p7 : w.cell? ⟨P, 7, none⟩ = some ve
theorem pcCs {P : Nat} {h : Hd} {vn vk ve : Value} {w : World} (hp : w.heap[P]? = some (.cells (pCells h vn vk ve) 56 (0, 0))) : PcCs P h vn vk ve w :=
 ⟨by rw [cell_of_heap' hp]; rfl, by rw [cell_of_heap' hp]; rfl, by rw [cell_of_heap' hp]; rfl, by rw [cell_of_heap' hp]; rfl, by rw [cell_of_heap' hp]; rfl, by rw [cell_of_heap' hp]; rfl, by rw [cell_of_heap' hp]; rfl, by rw [cell_of_heap' hp]; rfl⟩
def SpSaid (n : Nat) : Prop := ∀ (x y : Pt), x.cnt < n → x.era = y.era → ∀ (pl : Bool), (pl = true → x = y) → ∀ (ok ok' : Nat → Prop) (v v' : Value) (w : World), x.sm → x.cnt ≤ 16777216 → Parts ok w v x → Parts ok' w v' y →
 Calls Tryz.prog 32 #[v, v', .bool pl] w fun e w' => e = .returned (.bool true) ∧ Below w.heap.size w w'
def Rest (ok : Nat → Prop) (a : Option Addr) (w : World) (r : Pt) (k : Nat) : Prop := r ≠ .nil → ∃ b o, a = some ⟨b, o, none⟩ ∧ (ok b ∧ b < w.heap.size) ∧ Row (fun b => ok b ∧ b < w.heap.size) w r b (o + k * 8)
set_option maxRecDepth 100000 in
set_option maxHeartbeats 40000000 in
theorem sp_step (n : Nat) (ih : SpSaid n) : SpSaid (n + 1) := by
 intro x y hn he pl hpl ok ok' v v' w hsm hcnt hx hy
 have hlen := era_len he
 obtain ⟨a, c, rfl, h1, h2, h3⟩ := hx.lt
 obtain ⟨a', c', rfl, h1', h2', h3'⟩ := hy.lt
 have HX : Hid (Rest ok a w x 0) := fun hne => by
  obtain ⟨b, o, q1, q2, q3⟩ := h3 hne
  exact ⟨b, o, q1, q2, by rw [Nat.zero_mul, Nat.add_zero]; exact q3⟩
 have HY : Hid (Rest ok' a' w y 0) := fun hne => by
  obtain ⟨b, o, q1, q2, q3⟩ := h3' hne
  exact ⟨b, o, q1, q2, by rw [Nat.zero_mul, Nat.add_zero]; exact q3⟩
 have hlc := len_le_cnt x
 have HPL := Lib.hid hpl
 have HEE := Lib.hid he
 have HSM := Lib.hid hsm
 have IH := Lib.hid ih
 have HLEN := Lib.hid hlen
 have hly : (y.len : Int) = (x.len : Int) := by rw [hlen]
 rw [← hlen]
 clear h3 h3' hx hy h1 h2 h1' h2' hpl he hsm ih hlen hly
 go_enter Tryz.func32, Tryz.ntmps32
 go_wp2_with fail
 go_loopw [7] (fun i wr => ∃ (k : Nat) (r s : Pt), i = .int .i64 k ∧ k + r.len = x.len ∧ Hid (Below w.heap.size w wr) ∧ Hid (Rest ok a w r k) ∧ Hid (Rest ok' a' w s k) ∧ Hid (r.era = s.era) ∧ Hid (pl = true → r = s) ∧ r.cnt ≤ x.cnt ∧ Hid r.sm) (fun i _ => x.len - (intOf i).toNat)
 case atStart => exact ⟨0, x, y, rfl, by omega, Below.refl _ _, HX, HY, HEE, HPL, Nat.le_refl _, HSM⟩
 case round =>
  obtain ⟨k, r, s, rfl, hk, HB, HRX, HRY, HE, HP, hcn, HS⟩ := hrel
  cases r with
  | nil =>
    simp only [Pt.len] at hk
    have hge : ¬ (k : Int) < (x.len : Int) := by omega
    go_wp2_with fail
    go_ret
    exact ⟨rfl, HB.out⟩
  | cons h kd el r =>
    cases s with
    | nil => have := HE.out; simp [Pt.era] at this
    | cons h' kd' el' s =>
      obtain ⟨b, o, rfl, hb, hrow⟩ := HRX.out (by simp)
      obtain ⟨b', o', rfl, hb', hrow'⟩ := HRY.out (by simp)
      simp only [Pt.len] at hk
      simp only [Pt.cnt] at hcn
      have hkt : (k : Int) < (x.len : Int) := by omega
      have hk0 : (0 : Int) ≤ (k : Int) := by omega
      obtain ⟨hsmh, hsmk, hsme, hsmr⟩ := HS.out
      obtain ⟨s0, -, -, s3, -⟩ := hsmh
      have he4 := HE.out
      simp only [Pt.era, Pt.cons.injEq] at he4
      obtain ⟨eh, ek, ee, er⟩ := he4
      obtain ⟨pos', rfl⟩ : ∃ p, h' = { h with pos := p } := ⟨h'.pos, by
       unfold Hd.era at eh
       injection eh with q1 q2 q3 q4 q5 q6
       cases h'; cases h; simp_all⟩
      have HPK : Hid (pl = true → kd = kd' ∧ el = el' ∧ r = s ∧ h.pos = pos') := fun e => by
       have := HP.out e
       injection this with q1 q2 q3 q4
       exact ⟨q2, q3, q4, by rw [q1]⟩
      have HEK : Hid (kd.era = kd'.era ∧ el.era = el'.era ∧ r.era = s.era) := ⟨ek, ee, er⟩
      have HRS : Hid (Rest ok (some ⟨b, o, none⟩) w r (k + 1)) := fun _ => ⟨b, o, rfl, hb, by have := hrow.2.2.2; rwa [show o + k * 8 + 8 = o + (k + 1) * 8 by omega] at this⟩
      have HSS : Hid (Rest ok' (some ⟨b', o', none⟩) w s (k + 1)) := fun _ => ⟨b', o', rfl, hb', by have := hrow'.2.2.2; rwa [show o' + k * 8 + 8 = o' + (k + 1) * 8 by omega] at this⟩
      obtain ⟨⟨g0, g1, g2, g3, ⟨vn, g4, hstr⟩, g5⟩, ⟨ak, ck, g6, k1, k2, k3⟩, ⟨ae, ce, g7, e1, e2, e3⟩, -⟩ := Row.kept (fun b hk => HB.out.block b hk.2) _ _ _ hb hrow
      obtain ⟨⟨g0', g1', g2', g3', ⟨vn', g4', hstr'⟩, g5'⟩, ⟨ak', ck', g6', k1', k2', k3'⟩, ⟨ae', ce', g7', e1', e2', e3'⟩, -⟩ := Row.kept (fun b hk => HB.out.block b hk.2) _ _ _ hb' hrow'
      have hsz := HB.out.size
      have PC : Hid (∀ W, Below wr.heap.size wr W → Calls Tryz.prog 53 #[.agg #[.bool h.root, vn], .agg #[.bool h.root, vn']] W fun e w' => e = .returned (.bool true) ∧ Below W.heap.size W w') := fun W hW =>
       samePath_calls (fun b => ok b ∧ b < w.heap.size) (fun b => ok' b ∧ b < w.heap.size) h.root h.names (by omega) vn vn' W (hstr.kept (fun b hb => hW.block b (by have := hb.2; omega))) (hstr'.kept (fun b hb => hW.block b (by have := hb.2; omega)))
      have KC : Hid (∀ W, Below wr.heap.size wr W → Calls Tryz.prog 32 #[.slice ak kd.len ck, .slice ak' kd'.len ck', .bool pl] W fun e w' => e = .returned (.bool true) ∧ Below W.heap.size W w') := fun W hW =>
       IH.out kd kd' (by omega) ek pl (fun e => (HPK.out e).1) (fun b => ok b ∧ b < w.heap.size) (fun b => ok' b ∧ b < w.heap.size) _ _ W hsmk (by omega) (Parts.kept ⟨ak, ck, rfl, k1, k2, k3⟩ (fun b hb => hW.block b (by have := hb.2; omega))) (Parts.kept ⟨ak', ck', rfl, k1', k2', k3'⟩ (fun b hb => hW.block b (by have := hb.2; omega)))
      have EC : Hid (∀ W, Below wr.heap.size wr W → Calls Tryz.prog 32 #[.slice ae el.len ce, .slice ae' el'.len ce', .bool pl] W fun e w' => e = .returned (.bool true) ∧ Below W.heap.size W w') := fun W hW =>
       IH.out el el' (by omega) ee pl (fun e => (HPK.out e).2.1) (fun b => ok b ∧ b < w.heap.size) (fun b => ok' b ∧ b < w.heap.size) _ _ W hsme (by omega) (Parts.kept ⟨ae, ce, rfl, e1, e2, e3⟩ (fun b hb => hW.block b (by have := hb.2; omega))) (Parts.kept ⟨ae', ce', rfl, e1', e2', e3'⟩ (fun b hb => hW.block b (by have := hb.2; omega)))
      obtain ⟨an, cn, rfl, n1, n2, -⟩ := hstr
      obtain ⟨an', cn', rfl, n1', n2', -⟩ := hstr'
      have HKI := Lib.hid hk
      have HSR := Lib.hid hsmr
      have hki : k + 1 + r.len ≤ x.len := by omega
      clear k3 e3 k3' e3' hrow hrow' hsmk hsme hsmr ek ee er eh hk HRX HRY HS HE
      have HW0 : Hid (Below wr.heap.size wr ((wr.alloc (.cells (pCells h (.slice an h.names.length cn) (.slice ak kd.len ck) (.slice ae el.len ce)) 56 (0, 0))).alloc (.cells (pCells { h with pos := pos' } (.slice an' h.names.length cn') (.slice ak' kd'.len ck') (.slice ae' el'.len ce')) 56 (0, 0)))) :=
       ((Below.refl wr.heap.size wr).alloc (Nat.le_refl _) _).alloc (by simp) _
      have HP1 : Hid (∀ W, Below (wr.heap.size + 2) ((wr.alloc (.cells (pCells h (.slice an h.names.length cn) (.slice ak kd.len ck) (.slice ae el.len ce)) 56 (0, 0))).alloc (.cells (pCells { h with pos := pos' } (.slice an' h.names.length cn') (.slice ak' kd'.len ck') (.slice ae' el'.len ce')) 56 (0, 0))) W →
       PcCs wr.heap.size h (.slice an h.names.length cn) (.slice ak kd.len ck) (.slice ae el.len ce) W ∧ PcCs (wr.heap.size + 1) { h with pos := pos' } (.slice an' h.names.length cn') (.slice ak' kd'.len ck') (.slice ae' el'.len ce') W) := fun W hW => by
       have q := two_new (w := wr) (x := .cells (pCells h (.slice an h.names.length cn) (.slice ak kd.len ck) (.slice ae el.len ce)) 56 (0, 0)) (y := .cells (pCells { h with pos := pos' } (.slice an' h.names.length cn') (.slice ak' kd'.len ck') (.slice ae' el'.len ce')) 56 (0, 0)) (w1 := W) (hW.mono (by simp))
       exact ⟨pcCs q.1, pcCs q.2.1⟩
      have HSZ0 : Hid (((wr.alloc (.cells (pCells h (.slice an h.names.length cn) (.slice ak kd.len ck) (.slice ae el.len ce)) 56 (0, 0))).alloc (.cells (pCells { h with pos := pos' } (.slice an' h.names.length cn') (.slice ak' kd'.len ck') (.slice ae' el'.len ce')) 56 (0, 0))).heap.size = wr.heap.size + 2) := by unfold Hid; simp
      have hbl : b < wr.heap.size := by have := hb.2; omega
      have hbl' : b' < wr.heap.size := by have := hb'.2; omega
      unfold pCells at HW0 HP1 HSZ0
      dsimp only at HW0 HP1 HSZ0
      go_upto_region 8 with (fail)
      clear g0 g1 g2 g3 g4 g5 g6 g7 g0' g1' g2' g3' g4' g5' g6' g7'
      generalize hWW : World.alloc (World.alloc wr _) _ = W0 at *
      clear hWW
      obtain ⟨⟨p0, p1, p2, p3, p4, p5, p6, p7⟩, ⟨q0, q1, q2, q3, q4, q5, q6, q7⟩⟩ := HP1.out _ (Below.refl _ _)
      dsimp only at q0 q1 q2 q3 q5
      go_wp2_with fail
      refine (PC.out _ HW0.out).mono ?_
      rintro e w1 ⟨rfl, hb1⟩
      have HW1 : Hid (Below (wr.heap.size + 2) W0 w1) := hb1.mono (by rw [HSZ0.out]; exact Nat.le_refl _)
      clear hb1 p0 p1 p2 p3 p4 p5 p6 p7 q0 q1 q2 q3 q4 q5 q6 q7
      obtain ⟨⟨p0, p1, p2, p3, p4, p5, p6, p7⟩, ⟨q0, q1, q2, q3, q4, q5, q6, q7⟩⟩ := HP1.out _ HW1.out
      dsimp only at q0 q1 q2 q3 q5
      go_wp2_with fail
      refine (KC.out _ (HW0.out.trans (HW1.out.mono (by omega)))).mono ?_
      rintro e w2 ⟨rfl, hb2⟩
      have HW2 : Hid (Below (wr.heap.size + 2) W0 w2) := HW1.out.trans (hb2.mono (by have := HW1.out.size; rw [HSZ0.out] at this; exact this))
      clear hb2 p0 p1 p2 p3 p4 p5 p6 p7 q0 q1 q2 q3 q4 q5 q6 q7
      obtain ⟨⟨p0, p1, p2, p3, p4, p5, p6, p7⟩, ⟨q0, q1, q2, q3, q4, q5, q6, q7⟩⟩ := HP1.out _ HW2.out
      dsimp only at q0 q1 q2 q3 q5
      go_wp2_with fail
      refine (EC.out _ (HW0.out.trans (HW2.out.mono (by omega)))).mono ?_
      rintro e w3 ⟨rfl, hb3⟩
      have HW3 : Hid (Below (wr.heap.size + 2) W0 w3) := HW2.out.trans (hb3.mono (by have := HW2.out.size; rw [HSZ0.out] at this; exact this))
      clear hb3 p0 p1 p2 p3 p4 p5 p6 p7 q0 q1 q2 q3 q4 q5 q6 q7
      obtain ⟨⟨p0, p1, p2, p3, p4, p5, p6, p7⟩, ⟨q0, q1, q2, q3, q4, q5, q6, q7⟩⟩ := HP1.out _ HW3.out
      dsimp only at q0 q1 q2 q3 q5
      have HB4 : Hid (Below w.heap.size w w3) := HB.out.trans ((HW0.out.mono hsz).trans (HW3.out.mono (by omega)))
      cases pl with
      | false =>
        go_wp2_with fail
        go_roundw
        case rel => exact ⟨k + 1, r, s, by go_num, by have := HKI.out; omega, HB4, HRS, HSS, HEK.out.2.2, (fun e => absurd e (by decide)), by omega, HSR⟩
        case measure => simp [intOf]; omega
      | true =>
        have hpp := (HPK.out rfl).2.2.2
        subst hpp
        go_wp2_with fail
        go_roundw
        case rel => exact ⟨k + 1, r, s, by go_num, by have := HKI.out; omega, HB4, HRS, HSS, HEK.out.2.2, fun e => (HPK.out e).2.2.1, by omega, HSR⟩
        case measure => simp [intOf]; omega
theorem sp_all (n : Nat) : SpSaid n := by
 induction n with
 | zero => intro x y h; exact absurd h (Nat.not_lt_zero _)
 | succ n ih => exact sp_step n ih
theorem sameParts_calls (x y : Pt) (he : x.era = y.era) (pl : Bool) (hpl : pl = true → x = y) (ok ok' : Nat → Prop) (v v' : Value) (w : World) (hsm : x.sm) (hcnt : x.cnt ≤ 16777216) (hx : Parts ok w v x) (hy : Parts ok' w v' y) :
 Calls Tryz.prog 32 #[v, v', .bool pl] w fun e w' => e = .returned (.bool true) ∧ Below w.heap.size w w' :=
 sp_all (x.cnt + 1) x y (Nat.lt_succ_self _) he pl hpl ok ok' v v' w hsm hcnt hx hy
theorem DRow.lt {ok : Nat → Prop} {w : World} : ∀ (l : List Df) (b o : Nat), DRow ok w l b o → DRow (fun b => ok b ∧ b < w.heap.size) w l b o := by
 intro l
 induction l with
 | nil => intro b o _; exact trivial
 | cons d r ih =>
   rintro b o ⟨c0, c1, ⟨v, c2, h⟩, hr⟩
   exact ⟨c0, c1, ⟨v, c2, h.lt⟩, ih b _ hr⟩
theorem Defs.lt {ok : Nat → Prop} {w : World} {v : Value} {l : List Df} (h : Defs ok w v l) : Defs (fun b => ok b ∧ b < w.heap.size) w v l := by
 obtain ⟨a, c, hv, h1, h2, h3⟩ := h
 refine ⟨a, c, hv, h1, h2, fun hl => ?_⟩
 obtain ⟨b, o, ha, hb, hc⟩ := h3 hl
 refine ⟨b, o, ha, ⟨hb, ?_⟩, hc.lt⟩
 cases l with
 | nil => exact absurd rfl hl
 | cons _ _ => exact lt_of_cell hc.1
set_option maxRecDepth 100000 in
set_option maxHeartbeats 40000000 in
theorem sameTemplate_calls (x y : Tm) (he : x.era = y.era) (pl : Bool) (hpl : pl = true → x = y) (ok ok' : Nat → Prop) (vm vm' vd vd' : Value) (w : World) (hz : TmZ x) (hx : Parts ok w vm x.main) (hy : Parts ok' w vm' y.main) (hxd : Defs ok w vd x.defs) (hyd : Defs ok' w vd' y.defs) :
 Calls Tryz.prog 13 #[.agg #[vm, vd], .agg #[vm', vd'], .bool pl] w fun e w' => e = .returned (.bool true) ∧ Below w.heap.size w w' := by
 obtain ⟨xm, xd⟩ := x
 obtain ⟨ym, yd⟩ := y
 obtain ⟨z1, z2, z3, z4, -⟩ := hz
 dsimp only at z1 z2 z3 z4 hx hy hxd hyd
 simp only [Tm.era, Tm.mk.injEq] at he
 obtain ⟨hem, hed⟩ := he
 have hlen : xd.length = yd.length := by have := congrArg List.length hed; simpa using this
 have MC : Hid (∀ W, Below w.heap.size w W → Calls Tryz.prog 32 #[vm, vm', .bool pl] W fun e w' => e = .returned (.bool true) ∧ Below W.heap.size W w') := fun W hW =>
  sameParts_calls xm ym hem pl (fun e => by have := hpl e; injection this) (fun b => ok b ∧ b < w.heap.size) (fun b => ok' b ∧ b < w.heap.size) vm vm' W z1 (by omega) (hx.lt.kept (fun b hb => hW.block b hb.2)) (hy.lt.kept (fun b hb => hW.block b hb.2))
 obtain ⟨am, cm, rfl, -⟩ := hx
 obtain ⟨am', cm', rfl, -⟩ := hy
 obtain ⟨a, c, rfl, h1, h2, h3⟩ := hxd.lt
 obtain ⟨a', c', rfl, h1', h2', h3'⟩ := hyd.lt
 have H3 := Lib.hid h3
 have H3' := Lib.hid h3'
 have HPL := Lib.hid hpl
 have HED := Lib.hid hed
 have HZ2 := Lib.hid z2
 have HSU := Lib.hid z3
 have HLEN := Lib.hid hlen
 rw [← hlen]
 clear h3 h3' hxd hyd h1 h2 h1' h2' hpl hed hem z1 z2 z3 hlen
 have HB0 : Hid (Below w.heap.size w ((w.alloc (.cells #[.slice am xm.len cm, .slice a xd.length c] 25)).alloc (.cells #[.slice am' ym.len cm', .slice a' xd.length c'] 25))) := ((Below.refl _ w).alloc (Nat.le_refl _) _).alloc (by simp) _
 have HT0 : Hid (((w.alloc (.cells #[.slice am xm.len cm, .slice a xd.length c] 25)).alloc (.cells #[.slice am' ym.len cm', .slice a' xd.length c'] 25)).heap[w.heap.size]? = some (.cells #[.slice am xm.len cm, .slice a xd.length c] 25 (0, 0))) := (Below.heap_alloc _ _ _ (by simp)).trans (heap_alloc_new w _)
 have HT1 : Hid (((w.alloc (.cells #[.slice am xm.len cm, .slice a xd.length c] 25)).alloc (.cells #[.slice am' ym.len cm', .slice a' xd.length c'] 25)).heap[w.heap.size + 1]? = some (.cells #[.slice am' ym.len cm', .slice a' xd.length c'] 25 (0, 0))) := by
  have := heap_alloc_new (w.alloc (.cells #[.slice am xm.len cm, .slice a xd.length c] 25)) (.cells #[.slice am' ym.len cm', .slice a' xd.length c'] 25)
  rwa [show (w.alloc (.cells #[.slice am xm.len cm, .slice a xd.length c] 25)).heap.size = w.heap.size + 1 by simp] at this
 have HS0 : Hid (((w.alloc (.cells #[.slice am xm.len cm, .slice a xd.length c] 25)).alloc (.cells #[.slice am' ym.len cm', .slice a' xd.length c'] 25)).heap.size = w.heap.size + 2) := by unfold Hid; simp
 go_enter Tryz.func13, Tryz.ntmps13
 go_wp2_with fail
 generalize hWW : World.alloc (World.alloc w _) _ = W0 at *
 clear hWW
 have HTC : Hid (∀ W, Below (w.heap.size + 2) W0 W → W.cell? ⟨w.heap.size, 1, none⟩ = some (.slice a xd.length c) ∧ W.cell? ⟨w.heap.size + 1, 1, none⟩ = some (.slice a' xd.length c')) := fun W hW =>
  ⟨by rw [cell_of_heap' ((hW.block _ (by omega)).trans HT0.out)]; rfl, by rw [cell_of_heap' ((hW.block _ (by omega)).trans HT1.out)]; rfl⟩
 refine (MC.out _ HB0.out).mono ?_
 rintro e w1 ⟨rfl, hb1⟩
 have HB1 : Hid (Below (w.heap.size + 2) W0 w1) := hb1.mono (by rw [HS0.out]; exact Nat.le_refl _)
 clear hb1
 obtain ⟨t1, t2⟩ := HTC.out _ HB1.out
 go_wp2_with fail
 go_loopw [8] (fun i wr => ∃ k : Nat, i = .int .i64 k ∧ k ≤ xd.length ∧ Hid (Below (w.heap.size + 2) W0 wr)) (fun i _ => xd.length - (intOf i).toNat)
 case atStart => exact ⟨0, rfl, Nat.zero_le _, HB1⟩
 case round =>
  obtain ⟨k, rfl, hk, HB⟩ := hrel
  clear t1 t2
  obtain ⟨t1, t2⟩ := HTC.out _ HB.out
  by_cases hlt : k < xd.length
  · have hlt' : (k : Int) < (xd.length : Int) := by omega
    have hk0 : (0 : Int) ≤ (k : Int) := by omega
    obtain ⟨d, hdk⟩ : ∃ d, xd[k]? = some d := ⟨_, List.getElem?_eq_getElem hlt⟩
    obtain ⟨d', hdk'⟩ : ∃ d, yd[k]? = some d := ⟨_, List.getElem?_eq_getElem (by rw [← HLEN.out]; exact hlt)⟩
    have hde : d.era = d'.era := by
     have := congrArg (fun l => l[k]?) HED.out
     simp only [List.getElem?_map, hdk, hdk', Option.map_some] at this
     injection this
    simp only [Df.era, Df.mk.injEq, true_and] at hde
    obtain ⟨hdn, hdk2⟩ := hde
    obtain ⟨b, o, rfl, hb, hrow⟩ := H3.out (by intro e; rw [e] at hlt; simp at hlt)
    obtain ⟨b', o', rfl, hb', hrow'⟩ := H3'.out (by intro e; rw [e] at hdk'; simp at hdk')
    have HBW : Hid (Below w.heap.size w wr) := HB0.out.trans (HB.out.mono (by omega))
    obtain ⟨g0, g1, v, g2, hpd⟩ := DRow.at _ _ _ _ _ hdk (hrow.kept (fun b hb => HBW.out.block b hb.2) _ _ _ hb)
    obtain ⟨g0', g1', v', g2', hpd'⟩ := DRow.at _ _ _ _ _ hdk' (hrow'.kept (fun b hb => HBW.out.block b hb.2) _ _ _ hb')
    have hdm : d ∈ xd := List.mem_of_getElem? hdk
    have hsz := HBW.out.size
    have hPP : pl = true → d.pos = d'.pos ∧ d.kids = d'.kids := fun e => by
     have := HPL.out e
     injection this with q1 q2
     rw [q2, hdk'] at hdk
     injection hdk with q; rw [q]; exact ⟨rfl, rfl⟩
    have hcd := sum_mem hdm
    have KC : Hid (∀ W, Below wr.heap.size wr W → Calls Tryz.prog 32 #[v, v', .bool pl] W fun e w' => e = .returned (.bool true) ∧ Below W.heap.size W w') := fun W hW =>
     sameParts_calls d.kids d'.kids hdk2 pl (fun e => (hPP e).2) (fun b => ok b ∧ b < w.heap.size) (fun b => ok' b ∧ b < w.heap.size) v v' W (HZ2.out d hdm).2 (by have := HSU.out; omega) (hpd.kept (fun b hb => hW.block b (by have := hb.2; omega))) (hpd'.kept (fun b hb => hW.block b (by have := hb.2; omega)))
    have HPP := Lib.hid hPP
    rw [← hdn] at g0'
    obtain ⟨av, cv, rfl, -⟩ := hpd
    obtain ⟨av', cv', rfl, -⟩ := hpd'
    have hbl : b < wr.heap.size := by have := hb.2; omega
    have hbl' : b' < wr.heap.size := by have := hb'.2; omega
    have HG : Hid (∀ W, Below wr.heap.size wr W → W.cell? ⟨b, o + k * 3, none⟩ = some (.string d.name) ∧ W.cell? ⟨b, o + k * 3 + 1, none⟩ = some (.int .i64 d.pos) ∧ W.cell? ⟨b', o' + k * 3, none⟩ = some (.string d.name) ∧ W.cell? ⟨b', o' + k * 3 + 1, none⟩ = some (.int .i64 d'.pos)) := fun W hW =>
     ⟨(hW.cell (p := ⟨b, _, none⟩) hbl).trans g0, (hW.cell (p := ⟨b, _, none⟩) hbl).trans g1, (hW.cell (p := ⟨b', _, none⟩) hbl').trans g0', (hW.cell (p := ⟨b', _, none⟩) hbl').trans g1'⟩
    clear hdk hdk' hrow hrow' hdm hPP hdn hdk2 hlt
    go_upto_region 7 with (fail)
    go_still_tail 13, (by kernel_rfl)
    change wpList _ _ _ _ _ wr.drew
    have HBd : Hid (Below wr.heap.size wr wr.drew) := ⟨rfl, rfl, rfl, Nat.le_refl _, fun _ _ => rfl⟩
    clear g0 g1 g2 g0' g1' g2'
    generalize wr.drew = w2 at *
    go_wp2_with fail
    refine (KC.out _ HBd.out).mono ?_
    rintro e w3 ⟨rfl, hb3⟩
    have HB3 : Hid (Below wr.heap.size wr w3) := HBd.out.trans (hb3.mono HBd.out.size)
    have HB4 : Hid (Below (w.heap.size + 2) W0 w3) := HB.out.trans (HB3.out.mono (by have := HB.out.size; rw [HS0.out] at this; exact this))
    clear hb3 t1 t2 KC
    obtain ⟨t1, t2⟩ := HTC.out _ HB4.out
    obtain ⟨g0, g1, g0', g1'⟩ := HG.out _ HB3.out
    cases pl with
    | false =>
      go_wp2_with fail
      go_quiet (fail)
      go_wp2_with fail
      go_roundw
      case rel => exact ⟨k + 1, by go_num, by omega, below_drewN HB4.out _⟩
      case measure => simp [intOf]; omega
    | true =>
      have hpp := (HPP.out rfl).1
      rw [← hpp] at g1'
      clear hpp
      go_wp2_with fail
      go_quiet (fail)
      go_wp2_with fail
      go_roundw
      case rel => exact ⟨k + 1, by go_num, by omega, below_drewN HB4.out _⟩
      case measure => simp [intOf]; omega
  · have hge : ¬ (k : Int) < (xd.length : Int) := by omega
    go_wp2_with fail
    go_ret
    exact ⟨rfl, HB0.out.trans (HB.out.mono (by omega))⟩
end Go.Proofs.YtepcpgdfbaklfaaGreatDoor
