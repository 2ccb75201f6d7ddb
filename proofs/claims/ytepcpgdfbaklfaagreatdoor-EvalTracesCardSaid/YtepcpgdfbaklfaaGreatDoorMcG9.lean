/- The contracts of runner.part and runner.parts, for every depth. No condition but the run's form in memory and what yield does. -/
import Derived.Test.YtepcpgdfbaklfaaGreatDoorMcG6
import Derived.Test.YtepcpgdfbaklfaaGreatDoorG8C
import Derived.Test.YtepcpgdfbaklfaaGreatDoorMcF8
import Derived.Test.YtepcpgdfbaklfaaGreatDoorMcTac2
set_option linter.unusedSimpArgs false
set_option linter.unusedVariables false
namespace Go.Proofs.YtepcpgdfbaklfaaGreatDoor
open Go.RowKit Go.Shelf Ev
theorem getF_sm : ∀ (l : List ByteArray) (v x : Va), getF l v = .ok x → Va.sm v → Va.sm x
 | [], v, x, h, hs => by cases h; exact hs
 | n :: r, v, x, h, hs => by
   unfold getF at h
   split at h
   · split at h
     · split at h
       · rename_i y hy
         exact getF_sm r y x h (Va.sm_get hs hy)
       · cases h
     · cases h
   · cases h
theorem ev_zero (D : ByteArray → Pt) (C n : Nat) (dot root : Va) (deep : Nat) (h : Hd) (k e : Pt) : evF D C n dot root deep h k e 0 = ⟨[], 0, some (202, h.pos)⟩ := by
 cases n <;> rfl
theorem ev_text (D : ByteArray → Pt) (C n : Nat) (dot root : Va) (deep : Nat) (h : Hd) (k e : Pt) (f : Nat) (hk : h.kind = 1) : evF D C (n + 1) dot root deep h k e (f + 1) = ⟨[⟨h.pos, false, zeroVa, h.text⟩], f, none⟩ := by
 simp only [evF, burnF, hk, if_true]
theorem ev_hole (D : ByteArray → Pt) (C n : Nat) (dot root : Va) (deep : Nat) (h : Hd) (k e : Pt) (f : Nat) (hk : h.kind = 2) : evF D C (n + 1) dot root deep h k e (f + 1) = match getF h.names (if h.root then root else dot) with | .error x => ⟨[], f, some (x, h.pos)⟩ | .ok v => ⟨[⟨h.pos, true, v, .empty⟩], f, none⟩ := by
 simp only [evF, burnF, hk]
 rfl
theorem ev_if (D : ByteArray → Pt) (C n : Nat) (dot root : Va) (deep : Nat) (h : Hd) (k e : Pt) (f : Nat) (hk : h.kind = 3) : evF D C (n + 1) dot root deep h k e (f + 1) = ifF D C n dot root deep h k e f := by
 simp only [evF, burnF, hk, ifF]
 rfl
theorem ev_range (D : ByteArray → Pt) (C n : Nat) (dot root : Va) (deep : Nat) (h : Hd) (k e : Pt) (f : Nat) (hk : h.kind = 4) : evF D C (n + 1) dot root deep h k e (f + 1) = eachF D C n dot root deep h k e f := by
 simp only [evF, burnF, hk, eachF]
 rfl
theorem ev_call (D : ByteArray → Pt) (C n : Nat) (dot root : Va) (deep : Nat) (h : Hd) (k e : Pt) (f : Nat) (hk : h.kind = 0 ∨ 4 < h.kind) : evF D C (n + 1) dot root deep h k e (f + 1) = callF D C n dot root deep h f := by
 simp only [evF, burnF, callF]
 rw [if_neg (by omega)]
 cases getF h.names (if h.root then root else dot) with
 | error x => rfl
 | ok v =>
   dsimp only
   rw [if_neg (by omega), if_neg (by omega), if_neg (by omega)]
theorem part_of_parts (D : ByteArray → Pt) (C l rb mb : Nat) (J : (Nat → Prop) → List It → World → Prop) (HJ : Lies J) (HY : YieldS l mb J) (n : Nat) (hp : PartsSaid D C l rb mb J n) : PartSaid D C l rb mb J (n + 1) := by
 intro dot root h kd el deep f S pre W a1 a2 a3 a4 an ak ae c1 c2 c3 c4 cn ck ce hfn hcap hdc hsh hsk hse hck hce hrun hJ hok hst hk he
 cases f with
 | zero =>
   rw [ev_zero]
   exact part_none D C l rb mb J HJ dot root h kd el deep S pre W a1 a2 a3 a4 an ak ae c1 c2 c3 c4 cn ck ce hcap hdc hsh hsk hse hck hce hrun hJ hok hst hk he
 | succ f =>
   have hfn' : f ≤ n := Nat.le_of_succ_le_succ hfn
   by_cases k1 : h.kind = 1
   · rw [ev_text _ _ _ _ _ _ _ _ _ _ k1]
     exact part_text D C l rb mb J HJ HY dot root h kd el deep f S pre W a1 a2 a3 a4 an ak ae c1 c2 c3 c4 cn ck ce hcap hdc hsh hsk hse hck hce hrun hJ hok hst hk he k1
   by_cases k2 : h.kind = 2
   · rw [ev_hole _ _ _ _ _ _ _ _ _ _ k2]
     cases hg : getF h.names (if h.root then root else dot) with
     | error x => exact part_hole_err D C l rb mb J HJ dot root h kd el deep f S pre W a1 a2 a3 a4 an ak ae c1 c2 c3 c4 cn ck ce hcap hdc hsh hsk hse hck hce hrun hJ hok hst hk he k2 x hg
     | ok x =>
       have hx : Va.sm x := getF_sm _ _ _ hg (by split; exact hok.rsm; exact hok.dsm)
       exact part_hole_ok D C l rb mb J HJ HY dot root h kd el deep f S pre W a1 a2 a3 a4 an ak ae c1 c2 c3 c4 cn ck ce hcap hdc hsh hsk hse hck hce hrun hJ hok hst hk he k2 x hx hg
   by_cases k3 : h.kind = 3
   · rw [ev_if _ _ _ _ _ _ _ _ _ _ k3]
     exact part_if D C l rb mb J HJ n hp dot root h kd el deep f S pre W a1 a2 a3 a4 an ak ae c1 c2 c3 c4 cn ck ce hfn' hcap hdc hsh hsk hse hck hce hrun hJ hok hst hk he k3
   by_cases k4 : h.kind = 4
   · rw [ev_range _ _ _ _ _ _ _ _ _ _ k4]
     exact part_range D C l rb mb J HJ n hp dot root h kd el deep f S pre W a1 a2 a3 a4 an ak ae c1 c2 c3 c4 cn ck ce hfn' hcap hdc hsh hsk hse hck hce hrun hJ hok hst hk he k4
   · have k5 : h.kind = 0 ∨ 4 < h.kind := by omega
     rw [ev_call _ _ _ _ _ _ _ _ _ _ k5]
     exact part_call D C l rb mb J HJ n hp dot root h kd el deep f S pre W a1 a2 a3 a4 an ak ae c1 c2 c3 c4 cn ck ce hfn' hcap hdc hsh hsk hse hck hce hrun hJ hok hst hk he k5
theorem part_zero (D : ByteArray → Pt) (C l rb mb : Nat) (J : (Nat → Prop) → List It → World → Prop) (HJ : Lies J) : PartSaid D C l rb mb J 0 := by
 intro dot root h kd el deep f S pre W a1 a2 a3 a4 an ak ae c1 c2 c3 c4 cn ck ce hfn hcap hdc hsh hsk hse hck hce hrun hJ hok hst hk he
 obtain rfl : f = 0 := Nat.le_zero.1 hfn
 rw [ev_zero]
 exact part_none D C l rb mb J HJ dot root h kd el deep S pre W a1 a2 a3 a4 an ak ae c1 c2 c3 c4 cn ck ce hcap hdc hsh hsk hse hck hce hrun hJ hok hst hk he
theorem runParts_calls (D : ByteArray → Pt) (C l rb mb : Nat) (J : (Nat → Prop) → List It → World → Prop) (HJ : Lies J) (HY : YieldS l mb J) : ∀ n, PartsSaid D C l rb mb J n
 | 0 => parts_of_part D C l rb mb J HJ 0 (part_zero D C l rb mb J HJ)
 | n + 1 => parts_of_part D C l rb mb J HJ (n + 1) (part_of_parts D C l rb mb J HJ HY n (runParts_calls D C l rb mb J HJ HY n))
open Go.RowKit Go.Shelf Ev Go.ChangeMaps Go.MapKept
attribute [local go_sem ↓] Go.wp_at_zero Go.wp_at_succ
theorem now_str (a b : ByteArray) : Instr.sameNow .string (.string a) (.string b) = some (decide (a = b)) := by
 have h : Instr.sameNow .string (.string a) (.string b) = some (a == b) := rfl
 rw [h]
 congr 1
 rw [Bool.eq_iff_iff, decide_eq_true_eq]
 simp [MapKept.bytes_beq]
theorem find_push_none (k s : ByteArray) (v : Value) (c : Nat) : ∀ (l : List MapEntry) (i : Nat), Instr.findNow .string (.string k) l i = some none →
 Instr.findNow .string (.string k) (l ++ [⟨.string s, v, c⟩]) i = if k = s then some (some (i + l.length, v)) else some none
 | [], i, _ => by
   simp only [List.nil_append, Instr.findNow, now_str, List.length_nil, Nat.add_zero]
   by_cases h : k = s
   · rw [if_pos h, decide_eq_true h]
   · rw [if_neg h, decide_eq_false h]
 | e :: l, i, h => by
   simp only [List.cons_append, Instr.findNow] at h ⊢
   split at h
   · cases h
   · rename_i h1
     rw [find_push_none k s v c l (i + 1) h, List.length_cons, show i + 1 + l.length = i + (l.length + 1) by omega]
   · cases h
theorem find_push_some (k : ByteArray) (e' : MapEntry) (r : Nat × Value) : ∀ (l : List MapEntry) (i : Nat), Instr.findNow .string (.string k) l i = some (some r) →
 Instr.findNow .string (.string k) (l ++ [e']) i = some (some r)
 | [], i, h => by simp [Instr.findNow] at h
 | e :: l, i, h => by
   simp only [List.cons_append, Instr.findNow] at h ⊢
   split at h
   · exact h
   · rename_i h1
     exact find_push_some k e' r l (i + 1) h
   · cases h
theorem defF_app_some {n : ByteArray} (d : Df) : ∀ (l : List Df), (∃ x ∈ l, x.name = n) → defF (l ++ [d]) n = defF l n
 | [], h => by obtain ⟨x, hx, -⟩ := h; cases hx
 | x :: r, h => by
   rw [List.cons_append, defF, defF]
   by_cases hx : x.name = n
   · rw [if_pos hx, if_pos hx]
   · rw [if_neg hx, if_neg hx]
     obtain ⟨y, hy, hn⟩ := h
     rcases List.mem_cons.1 hy with rfl | hy
     · exact absurd hn hx
     · exact defF_app_some d r ⟨y, hy, hn⟩
theorem defF_app_none {n : ByteArray} (d : Df) : ∀ (l : List Df), (∀ x ∈ l, x.name ≠ n) → defF (l ++ [d]) n = if d.name = n then d.kids else .nil
 | [], _ => rfl
 | x :: r, h => by
   rw [List.cons_append, defF, if_neg (h x (by simp))]
   exact defF_app_none d r fun y hy => h y (by simp [hy])
def MapK (l : List Df) (ok : Nat → Prop) (M : Nat) (w : World) : Prop := ∃ es clock, w.heap[M]? = some (.map es clock) ∧ ∀ n : ByteArray,
 ((∃ x ∈ l, x.name = n) ∧ ∃ i a c, Instr.findNow .string (.string n) es.toList 0 = some (some (i, .slice a (defF l n).len c)) ∧ Parts ok w (.slice a (defF l n).len c) (defF l n)) ∨ ((∀ x ∈ l, x.name ≠ n) ∧ Instr.findNow .string (.string n) es.toList 0 = some none)
theorem MapK.step {l : List Df} {ok ok' : Nat → Prop} {M : Nat} {W W' : World} (h : MapK l ok M W) (hm : W'.heap[M]? = W.heap[M]?) (hk : Kept ok W W') (ho : ∀ b, ok b → ok' b) : MapK l ok' M W' := by
 obtain ⟨es, clock, h1, h2⟩ := h
 refine ⟨es, clock, hm.trans h1, fun n => ?_⟩
 rcases h2 n with ⟨h0, i, a, c, h3, h4⟩ | h3
 · exact .inl ⟨h0, i, a, c, h3, (h4.kept hk).mono ho⟩
 · exact .inr h3
theorem MapK.lt {l : List Df} {ok : Nat → Prop} {M : Nat} {W : World} (h : MapK l ok M W) : M < W.heap.size := by
 obtain ⟨es, clock, h1, -⟩ := h
 exact lt_of_block h1
theorem MapK.mapD {l : List Df} {ok : Nat → Prop} {M : Nat} {W : World} (h : MapK l ok M W) : MapD (defF l) ok M W := by
 obtain ⟨es, clock, h1, h2⟩ := h
 refine ⟨es, clock, h1, fun n => ?_⟩
 rcases h2 n with ⟨h0, h3⟩ | ⟨h0, h3⟩
 · exact .inl h3
 · exact .inr ⟨h3, defF_none l h0⟩
theorem MapK.made (ok : Nat → Prop) (w : World) : MapK [] ok w.heap.size (w.alloc (.map #[] 0)) :=
 ⟨#[], 0, (MapKept.heap_alloc w _).1, fun n => .inr ⟨(fun x hx => by cases hx), rfl⟩⟩
theorem MapK.put {l : List Df} {ok : Nat → Prop} {M : Nat} {w : World} (h : MapK l ok M w) (hM : ¬ ok M) (d : Df) (hnew : ∀ x ∈ l, x.name ≠ d.name) (ad : Option Addr) (cd : Nat) (hp : Parts ok w (.slice ad d.kids.len cd) d.kids) :
 ∃ w', (Instr.mapUpdate 113 (.map (some M)) (.string d.name) (.slice ad d.kids.len cd)).run Tryz.prog w = .ok () w' ∧ MapK (l ++ [d]) ok M w' ∧ ∀ B w0, B ≤ M → Below B w0 w → Below B w0 w' := by
 obtain ⟨es, clock, h1, h2⟩ := h
 have hf : Instr.findNow .string (.string d.name) es.toList 0 = some none := by
  rcases h2 d.name with ⟨⟨x, hx, hn⟩, -⟩ | ⟨-, h3⟩
  · exact absurd hn (hnew x hx)
  · exact h3
 refine ⟨_, run_insert 113 9 22 M clock es d.name _ Tryz.underlying113 Tryz.underlying9 h1 hf, ?_, fun B w0 hB hb => below_setBlock hb hB _ _ _ h1⟩
 have hk : Kept ok w (setBlock w M (.map (es.push { key := .string d.name, val := .slice ad d.kids.len cd, born := clock }) (clock + 1))) := fun b hb => heap_setBlock_other h1 _ (fun e => hM (e ▸ hb))
 refine ⟨_, _, heap_setBlock_same h1 _, fun n => ?_⟩
 rw [Array.toList_push]
 rcases h2 n with ⟨h0, i, a, c, h3, h4⟩ | ⟨h0, h3⟩
 · left
   refine ⟨?_, i, a, c, ?_, ?_⟩
   · obtain ⟨x, hx, hn⟩ := h0
     exact ⟨x, List.mem_append_left _ hx, hn⟩
   · rw [defF_app_some d l h0]
     exact find_push_some n _ _ _ _ h3
   · rw [defF_app_some d l h0]
     exact h4.kept hk
 · have hq := find_push_none n d.name (.slice ad d.kids.len cd) clock es.toList 0 h3
   by_cases e : d.name = n
   · left
     refine ⟨⟨d, by simp, e⟩, 0 + es.toList.length, ad, cd, ?_, ?_⟩
     · rw [defF_app_none d l h0, if_pos e]
       rw [if_pos e.symm] at hq
       exact hq
     · rw [defF_app_none d l h0, if_pos e]
       exact hp.kept hk
   · right
     refine ⟨?_, ?_⟩
     · intro x hx
       rcases List.mem_append.1 hx with hx | hx
       · exact h0 x hx
       · rw [List.mem_singleton.1 hx]; exact e
     · rw [if_neg (fun x => e x.symm)] at hq
       exact hq
theorem nodup_take {k : Nat} {d : Df} {l : List Df} (ht : twice (l.map fun d => bl d.name) = false) (hk : l[k]? = some d) : ∀ x ∈ l.take k, x.name ≠ d.name := by
 intro x hx e
 have hlt := (List.getElem?_eq_some_iff.1 hk).1
 have hs : l = l.take k ++ ([d] ++ l.drop (k + 1)) := by
  rw [← (List.getElem?_eq_some_iff.1 hk).2, List.singleton_append, ← List.drop_eq_getElem_cons hlt, List.take_append_drop]
 have h1 : twice ((l.take k).map (fun d => bl d.name) ++ [bl d.name]) = true := by
  rw [twice_snocK, Bool.or_eq_true]
  right
  rw [List.contains_iff_mem]
  exact List.mem_map.2 ⟨x, hx, by rw [e]⟩
 have h2 := twice_more _ ((l.drop (k + 1)).map fun d => bl d.name) h1
 have : (l.map fun d => bl d.name) = ((l.take k).map (fun d => bl d.name) ++ [bl d.name]) ++ (l.drop (k + 1)).map fun d => bl d.name := by
  conv => lhs; rw [hs]
  simp
 rw [← this, ht] at h2
 cases h2
theorem clamp_is (m : Nat) (f : Int) : max (min f (m : Int)) 0 = ((clampF m f : Nat) : Int) := by unfold clampF; omega
def PcE (r : Ev.Rs) (J : (Nat → Prop) → List It → World → Prop) (S : Nat → Prop) (W : World) (e : Ending) (W' : World) : Prop :=
 ∃ S' xs, J S' xs W' ∧ Off (fun b => b < W.heap.size ∧ ¬ S b) W W' ∧ xs.map It.pc = r.out ∧ ((∃ v, e = .returned v ∧ r.err = none) ∨ (∃ n p, e = .panicked (wrongP n p) ∧ r.err = some (n, p)))
set_option maxRecDepth 100000 in
set_option maxHeartbeats 40000000 in
theorem pieces1_calls (t : Tm) (hz : TmZ t) (htw : twice (t.defs.map fun d => bl d.name) = false) (v : Va) (hsv : Va.sm v) (fuel calls : Int) (l : Nat) (J : (Nat → Prop) → List It → World → Prop) (HJ : Lies J) (S : Nat → Prop) (W : World) (HY : YieldS l W.heap.size J) (hS : ∀ b, S b → b < W.heap.size) (hJ : J S [] W)
 (am ad a1 a2 : Option Addr) (cm cd c1 c2 tb vb fb cb : Nat) (ht : W.heap[tb]? = some (.cells #[.slice am t.main.len cm, .slice ad t.defs.length cd] 25 (0, 0)))
 (hv : W.heap[vb]? = some (.cells #[.int .u8 (v.h.kind : Nat), .bool v.h.b, .int .i64 v.h.n, .int .u64 (v.h.bits : Nat), .string v.h.text, .slice a1 v.h.keys.length c1, .slice a2 v.items.len c2] 31 (0, 0)))
 (hf : W.heap[fb]? = some (.cells #[.int .i64 fuel] 3 (0, 0))) (hc : W.heap[cb]? = some (.cells #[.int .i64 calls] 3 (0, 0)))
 (hm : Parts (fun b => b < W.heap.size ∧ ¬ S b) W (.slice am t.main.len cm) t.main) (hd : Defs (fun b => b < W.heap.size ∧ ¬ S b) W (.slice ad t.defs.length cd) t.defs) (hvl : ValS (fun b => b < W.heap.size ∧ ¬ S b) W v a1 c1 a2 c2) :
 Calls Tryz.prog 51 #[.func (.yield l) #[] #[], .pointer (some ⟨tb, 0, none⟩), .pointer (some ⟨vb, 0, none⟩), .pointer (some ⟨fb, 0, none⟩), .pointer (some ⟨cb, 0, none⟩)] W (PcE (runF (defF t.defs) (clampF 256 calls) t.main v (clampF 1000000 fuel)) J S W) := by
 obtain ⟨main, defs⟩ := t
 obtain ⟨z1, z2, z3, z4, -⟩ := hz
 dsimp only at z1 z2 z3 z4 ht hm hd htw ⊢
 obtain ⟨a, c, he, h1, h2, h3⟩ := hd
 cases he
 have H3 := Lib.hid h3
 have HTW := Lib.hid htw
 have HJJ := Lib.hid HJ
 have HYY := Lib.hid HY
 have HJ0 := Lib.hid hJ
 have HSS := Lib.hid hS
 have HM := Lib.hid hm
 have HVL := Lib.hid hvl
 have HSV := Lib.hid hsv
 have HZ1 := Lib.hid z1
 have HZ2 := Lib.hid z2
 have HZ3 := Lib.hid z3
 have HT := Lib.hid ht
 have HV := Lib.hid hv
 have HF := Lib.hid hf
 have HC := Lib.hid hc
 have htl := lt_of_block ht
 have hvlt := lt_of_block hv
 have hflt := lt_of_block hf
 have hclt := lt_of_block hc
 have hmm := @run_makeMap Tryz.prog
 have HM0 : Hid (MapK [] (fun b => b < W.heap.size ∧ ¬ S b) W.heap.size (W.alloc (.map #[] 0))) := MapK.made _ W
 have HB0 : Hid (Below W.heap.size W (W.alloc (.map #[] 0))) := (Below.refl _ W).alloc (Nat.le_refl _) _
 have x1 : (W.alloc (.map #[] 0)).cell? ⟨tb, 1, none⟩ = some (.slice ad defs.length cd) := by rw [cell_of_heap' ((Below.heap_alloc _ _ _ htl).trans ht)]; rfl
 clear h3 htw HJ HY hJ hS hm hvl hsv z1 z2 z3 ht hv hf hc
 go_enter Tryz.func51, Tryz.ntmps51
 go_wp2_with fail
 clear x1
 generalize hW1 : World.alloc W _ = W1 at *
 clear hW1
 go_loopw [14] (fun i wr => ∃ k : Nat, i = .int .i64 (k : Nat) ∧ k ≤ defs.length ∧ Hid (MapK (defs.take k) (fun b => b < W.heap.size ∧ ¬ S b) W.heap.size wr) ∧ Hid (Below W.heap.size W wr)) (fun i _ => defs.length - (intOf i).toNat)
 case atStart => exact ⟨0, rfl, Nat.zero_le _, HM0, HB0⟩
 case round =>
  obtain ⟨k, rfl, hk, HK, HB⟩ := hrel
  have hM := HK.out.lt
  by_cases hlt : k < defs.length
  · have hlt' : (k : Int) < (defs.length : Int) := by omega
    obtain ⟨d, hdk⟩ : ∃ d, defs[k]? = some d := ⟨_, List.getElem?_eq_getElem hlt⟩
    obtain ⟨b, o, rfl, ⟨hbB, hbS⟩, hrow⟩ := H3.out (by intro e; rw [e] at hlt; simp at hlt)
    obtain ⟨g0, g1, v', g2, hpd⟩ := DRow.at _ _ _ _ _ hdk (hrow.kept (fun b hb => HB.out.block b hb.1) _ _ _ ⟨hbB, hbS⟩)
    obtain ⟨ak, ck, rfl, d1, d2, -⟩ := id hpd
    have HNW := nodup_take HTW.out hdk
    have hbl : b < wr.heap.size := by have := HB.out.size; omega
    have HBA : Hid (Below W.heap.size W (wr.alloc (.cells #[.string d.name, .int .i64 d.pos, .slice ak d.kids.len ck] 70))) := HB.out.alloc HB.out.size _
    have HKA : MapK (defs.take k) (fun b => b < W.heap.size ∧ ¬ S b) W.heap.size (wr.alloc (.cells #[.string d.name, .int .i64 d.pos, .slice ak d.kids.len ck] 70)) := HK.out.step (Below.heap_alloc _ _ _ hM) (fun b hb => Below.heap_alloc _ _ _ (by have := HB.out.size; have := hb.1; omega)) (fun _ h => h)
    obtain ⟨w4, hup, hk4, hb4⟩ := HKA.put (by intro h; have := h.1; omega) d HNW ak ck (hpd.kept (fun b hb => Below.heap_alloc _ _ _ (by have := HB.out.size; have := hb.1; omega)))
    rw [show defs.take k ++ [d] = defs.take (k + 1) by rw [List.take_add_one, hdk]; rfl] at hk4
    have HK4 := Lib.hid hk4
    have HB4 := Lib.hid (hb4 _ _ (Nat.le_refl _) HBA.out)
    clear hk4 hb4 HKA hpd HNW hrow hdk hlt
    go_wp2_with fail
    go_roundw
    case rel => exact ⟨k + 1, by go_num, by omega, HK4, HB4⟩
    case measure => simp [intOf]; omega
  · have hge : ¬ (k : Int) < (defs.length : Int) := by omega
    have HKE : Hid (MapK defs (fun b => b < W.heap.size ∧ ¬ S b) W.heap.size wr) := by have := HK.out; rwa [List.take_of_length_le (by omega)] at this
    have hsz := HB.out.size
    have HV1 : Hid (wr.heap[vb]? = some (.cells #[.int .u8 (v.h.kind : Nat), .bool v.h.b, .int .i64 v.h.n, .int .u64 (v.h.bits : Nat), .string v.h.text, .slice a1 v.h.keys.length c1, .slice a2 v.items.len c2] 31 (0, 0))) := (HB.out.block _ hvlt).trans HV.out
    have v0 : wr.cell? ⟨vb, 0, none⟩ = some (.int .u8 (v.h.kind : Nat)) := by rw [cell_of_heap' HV1.out]; rfl
    have v1 : wr.cell? ⟨vb, 1, none⟩ = some (.bool v.h.b) := by rw [cell_of_heap' HV1.out]; rfl
    have v2 : wr.cell? ⟨vb, 2, none⟩ = some (.int .i64 v.h.n) := by rw [cell_of_heap' HV1.out]; rfl
    have v3 : wr.cell? ⟨vb, 3, none⟩ = some (.int .u64 (v.h.bits : Nat)) := by rw [cell_of_heap' HV1.out]; rfl
    have v4 : wr.cell? ⟨vb, 4, none⟩ = some (.string v.h.text) := by rw [cell_of_heap' HV1.out]; rfl
    have v5 : wr.cell? ⟨vb, 5, none⟩ = some (.slice a1 v.h.keys.length c1) := by rw [cell_of_heap' HV1.out]; rfl
    have v6 : wr.cell? ⟨vb, 6, none⟩ = some (.slice a2 v.items.len c2) := by rw [cell_of_heap' HV1.out]; rfl
    have f0 : wr.cell? ⟨fb, 0, none⟩ = some (.int .i64 fuel) := by rw [cell_of_heap' ((HB.out.block _ hflt).trans HF.out)]; rfl
    have c0 : wr.cell? ⟨cb, 0, none⟩ = some (.int .i64 calls) := by rw [cell_of_heap' ((HB.out.block _ hclt).trans HC.out)]; rfl
    have t0 : wr.cell? ⟨tb, 0, none⟩ = some (.slice am main.len cm) := by rw [cell_of_heap' ((HB.out.block _ htl).trans HT.out)]; rfl
    have htl1 : tb < wr.heap.size := by omega
    have e1 := clamp_is 1000000 fuel
    have e2 := clamp_is 256 calls
    go_wp2_with fail
    clear v0 v1 v2 v3 v4 v5 v6 f0 c0 t0 htl1 e1 e2
    have HSR : Hid (((wr.alloc (.cells #[.map (some W.heap.size), .int .i64 (max (min fuel 1000000) 0), .int .i64 (max (min calls 256) 0), .func (.yield l) #[] #[]] 118)).alloc (.cells #[.int .u8 (v.h.kind : Nat), .bool v.h.b, .int .i64 v.h.n, .int .u64 (v.h.bits : Nat), .string v.h.text, .slice a1 v.h.keys.length c1, .slice a2 v.items.len c2, .int .u8 (v.h.kind : Nat), .bool v.h.b, .int .i64 v.h.n, .int .u64 (v.h.bits : Nat), .string v.h.text, .slice a1 v.h.keys.length c1, .slice a2 v.items.len c2, .int .i64 0, .pointer (some ⟨wr.heap.size, 0, none⟩)] 120)).heap.size = wr.heap.size + 2) := by unfold Hid; simp
    have HRR : Hid (((wr.alloc (.cells #[.map (some W.heap.size), .int .i64 (max (min fuel 1000000) 0), .int .i64 (max (min calls 256) 0), .func (.yield l) #[] #[]] 118)).alloc (.cells #[.int .u8 (v.h.kind : Nat), .bool v.h.b, .int .i64 v.h.n, .int .u64 (v.h.bits : Nat), .string v.h.text, .slice a1 v.h.keys.length c1, .slice a2 v.items.len c2, .int .u8 (v.h.kind : Nat), .bool v.h.b, .int .i64 v.h.n, .int .u64 (v.h.bits : Nat), .string v.h.text, .slice a1 v.h.keys.length c1, .slice a2 v.items.len c2, .int .i64 0, .pointer (some ⟨wr.heap.size, 0, none⟩)] 120)).heap[wr.heap.size]? = some (restC W.heap.size (clampF 1000000 fuel) (clampF 256 calls) l)) := by
     unfold restC
     rw [← clamp_is, ← clamp_is]
     exact (Below.heap_alloc _ _ _ (by simp)).trans (heap_alloc_new wr _)
    have HBR : Hid (Below wr.heap.size wr ((wr.alloc (.cells #[.map (some W.heap.size), .int .i64 (max (min fuel 1000000) 0), .int .i64 (max (min calls 256) 0), .func (.yield l) #[] #[]] 118)).alloc (.cells #[.int .u8 (v.h.kind : Nat), .bool v.h.b, .int .i64 v.h.n, .int .u64 (v.h.bits : Nat), .string v.h.text, .slice a1 v.h.keys.length c1, .slice a2 v.items.len c2, .int .u8 (v.h.kind : Nat), .bool v.h.b, .int .i64 v.h.n, .int .u64 (v.h.bits : Nat), .string v.h.text, .slice a1 v.h.keys.length c1, .slice a2 v.items.len c2, .int .i64 0, .pointer (some ⟨wr.heap.size, 0, none⟩)] 120))) := ((Below.refl _ wr).alloc (Nat.le_refl _) _).alloc (by simp) _
    generalize hWW : World.alloc (World.alloc wr _) _ = WR at *
    clear hWW
    have hBW : Below W.heap.size W WR := HB.out.trans (HBR.out.mono hsz)
    have hkp : Kept (fun b => b < W.heap.size ∧ ¬ S b) W WR := fun b hb => hBW.block b hb.1
    have hok : ∀ b, (b < W.heap.size ∧ ¬ S b) → okS S wr.heap.size WR b := fun b hb => ⟨by have := hBW.size; have := hb.1; omega, hb.2, by have := hb.1; omega⟩
    have hSS := HSS.out
    have hvl := (HVL.out.kept hkp).mono hok
    have hmap : MapD (defF defs) (okS S wr.heap.size WR) W.heap.size WR := HKE.out.mapD.step (HBR.out.block _ hM) (fun b hb => HBR.out.block b (by have := hb.1; omega)) hok
    have hrun : RunA (defF defs) (clampF 256 calls) l wr.heap.size W.heap.size S (clampF 1000000 fuel) WR := by
     refine ⟨HRR.out, (fun h => by have := hSS _ h; omega), ⟨by have := HSR.out; omega, (fun h => by have := hSS _ h; omega), by omega⟩, hmap, (fun b hb => by have := hSS b hb; have := hBW.size; omega), clamp_le _ _, clamp_le _ _, fun n => ?_⟩
     by_cases hn : defF defs n = .nil
     · rw [hn]; exact ⟨trivial, by simp [Pt.cnt]⟩
     · obtain ⟨d, hd, hkd⟩ := defF_mem hn
       rw [← hkd]
       have h3 := HZ3.out
       have h4 := sum_mem hd
       exact ⟨(HZ2.out d hd).2, by omega⟩
    have C1 := Lib.hid (runParts_calls (defF defs) (clampF 256 calls) l wr.heap.size W.heap.size J HJJ.out HYY.out (clampF 1000000 fuel) v v main 0 (clampF 1000000 fuel) S [] WR a1 a2 a1 a2 am c1 c2 c1 c2 cm (Nat.le_refl _) (by rw [List.length_nil, Nat.zero_add]; exact clamp_le _ _) (Nat.zero_le _) HZ1.out (by have := HZ3.out; omega) hrun (HJJ.out _ _ _ _ HJ0.out (off_below hSS hBW)) ⟨HSV.out, HSV.out, hvl, hvl⟩ ((HM.out.kept hkp).mono hok))
    have HOF : Hid (Off (fun b => b < W.heap.size ∧ ¬ S b) W WR) := (Off.of_below hBW).mono fun b hb => hb.1
    have HOK := Lib.hid hok
    clear hBW hkp hok hSS hvl hmap hrun
    refine C1.out.mono ?_
    rintro e W' ⟨S', xs, hj, ho, hst, he⟩
    have HO2 : Hid (Off (fun b => b < W.heap.size ∧ ¬ S b) W W') := HOF.out.trans (hst.off.mono HOK.out)
    have HJ2 := Lib.hid hj
    have HO3 : Hid (xs.map It.pc = (runF (defF defs) (clampF 256 calls) main v (clampF 1000000 fuel)).out) := ho
    have HE : Hid (match (runF (defF defs) (clampF 256 calls) main v (clampF 1000000 fuel)).err with
     | none => e = .returned (.bool true)
     | some (n, p) => e = .panicked (wrongP n p)) := by
     unfold Hid
     change (match (runF (defF defs) (clampF 256 calls) main v (clampF 1000000 fuel)).err with | none => _ | some (n, p) => _) at he
     split at he
     · exact he.1
     · exact he
    clear hj ho hst he
    cases hr : (runF (defF defs) (clampF 256 calls) main v (clampF 1000000 fuel)).err with
    | none =>
      have HR := Lib.hid hr
      have he := HE.out
      rw [hr] at he
      obtain rfl := he
      clear hr HE
      go_wp2_with fail
      go_end0
      exact ⟨S', xs, HJ2.out, HO2.out, HO3.out, .inl ⟨_, rfl, HR.out⟩⟩
    | some np =>
      obtain ⟨n, p⟩ := np
      have HR := Lib.hid hr
      have he := HE.out
      rw [hr] at he
      obtain rfl := he
      clear hr HE
      go_wp2_with fail
      exact ⟨rfl, S', xs, HJ2.out, HO2.out, HO3.out, .inr ⟨_, _, rfl, HR.out⟩⟩
theorem prP_le {A B : Nat} (h : A ≤ B) {x : It} {W : World} (hp : prP B x W) : prP A x W := ⟨hp.1, hp.2.1, hp.2.2.1, fun b hb => Nat.le_trans h (hp.2.2.2 b hb)⟩
theorem pieces_hands (t : Tm) (hz : TmZ t) (htw : twice (t.defs.map fun d => bl d.name) = false) (v : Va) (hsv : Va.sm v) (fuel calls : Int) (w : World) (Old : Nat → Prop) (hO : ∀ b, Old b → b < w.heap.size)
 (am ad a1 a2 : Option Addr) (cm cd c1 c2 tb vb fb cb : Nat) (ht : w.heap[tb]? = some (.cells #[.slice am t.main.len cm, .slice ad t.defs.length cd] 25 (0, 0)))
 (hv : w.heap[vb]? = some (.cells #[.int .u8 (v.h.kind : Nat), .bool v.h.b, .int .i64 v.h.n, .int .u64 (v.h.bits : Nat), .string v.h.text, .slice a1 v.h.keys.length c1, .slice a2 v.items.len c2] 31 (0, 0)))
 (hf : w.heap[fb]? = some (.cells #[.int .i64 fuel] 3 (0, 0))) (hc : w.heap[cb]? = some (.cells #[.int .i64 calls] 3 (0, 0)))
 (hm : Parts Old w (.slice am t.main.len cm) t.main) (hd : Defs Old w (.slice ad t.defs.length cd) t.defs) (hvl : ValS Old w v a1 c1 a2 c2) (r : Ev.Rs) (hr : r = runF (defF t.defs) (clampF 256 calls) t.main v (clampF 1000000 fuel)) :
 Hands Tryz.prog 51 #[.pointer (some ⟨tb, 0, none⟩), .pointer (some ⟨vb, 0, none⟩), .pointer (some ⟨fb, 0, none⟩), .pointer (some ⟨cb, 0, none⟩)] encP It.T (prP w.heap.size)
  (fun xs => r.err = none ∧ xs.map It.pc = r.out) (fun ch xs => ∃ n p, ch = wrongP n p ∧ r.err = some (n, p) ∧ xs.map It.pc = r.out) Old w := by
 intro l J S W hW hS hOS HJ hY hJ0
 have hkp : Kept Old w W := fun b hb => hW.block b (hO b hb)
 have hok : ∀ b, Old b → (b < W.heap.size ∧ ¬ S b) := fun b hb => ⟨Nat.lt_of_lt_of_le (hO b hb) hW.size, hOS b hb⟩
 have HY : YieldS l W.heap.size J := fun S pre x W1 h1 hl h2 => hY S pre x W1 h1 hl ⟨h2.new, prP_le hW.size h2.is⟩
 refine (callsIn_wide.2 (pieces1_calls t hz htw v hsv fuel calls l J HJ S W HY hS hJ0 am ad a1 a2 cm cd c1 c2 tb vb fb cb ((hW.block _ (lt_of_block ht)).trans ht) ((hW.block _ (lt_of_block hv)).trans hv) ((hW.block _ (lt_of_block hf)).trans hf) ((hW.block _ (lt_of_block hc)).trans hc) ((hm.kept hkp).mono hok) ((hd.kept hkp).mono hok) ((hvl.kept hkp).mono hok))).mono ?_
 rintro e W' ⟨S', xs, h1, h2, h3, h4⟩
 rw [← hr] at h3 h4
 refine ⟨S', xs, h1, h2, ?_⟩
 rcases h4 with ⟨v, rfl, h5⟩ | ⟨n, p, rfl, h5⟩
 · exact .inl ⟨v, rfl, h5, h3⟩
 · exact .inr ⟨_, rfl, n, p, rfl, h5, h3⟩
set_option maxRecDepth 100000 in
set_option maxHeartbeats 40000000 in
theorem pieces_calls (vm vd x0 x1 x2 x3 x4 x5 x6 : Value) (fuel calls : Int) (w : World) :
 Calls Tryz.prog 31 #[.agg #[vm, vd], .agg #[x0, x1, x2, x3, x4, x5, x6], .int .i64 fuel, .int .i64 calls] w fun e w' =>
  e = .returned (.func (.func 51) #[] #[.pointer (some ⟨w.heap.size, 0, none⟩), .pointer (some ⟨w.heap.size + 1, 0, none⟩), .pointer (some ⟨w.heap.size + 2, 0, none⟩), .pointer (some ⟨w.heap.size + 3, 0, none⟩)]) ∧
  Below w.heap.size w w' ∧ w'.heap[w.heap.size]? = some (.cells #[vm, vd] 25 (0, 0)) ∧ w'.heap[w.heap.size + 1]? = some (.cells #[x0, x1, x2, x3, x4, x5, x6] 31 (0, 0)) ∧
  w'.heap[w.heap.size + 2]? = some (.cells #[.int .i64 fuel] 3 (0, 0)) ∧ w'.heap[w.heap.size + 3]? = some (.cells #[.int .i64 calls] 3 (0, 0)) := by
 have hmf : ∀ (fn : Fn) (first cap : Array Value) (w : World), (Instr.makeFunc fn first cap).run Tryz.prog w = .ok (.func fn first cap) w := fun _ _ _ _ => rfl
 go_enter Tryz.func31, Tryz.ntmps31
 go_wp2_with fail
 go_ret
 have n0 := heap_alloc_new w (.cells #[vm, vd] 25)
 have n1 := heap_alloc_new (w.alloc (.cells #[vm, vd] 25)) (.cells #[x0, x1, x2, x3, x4, x5, x6] 31)
 have n2 := heap_alloc_new ((w.alloc (.cells #[vm, vd] 25)).alloc (.cells #[x0, x1, x2, x3, x4, x5, x6] 31)) (.cells #[.int .i64 fuel] 3)
 have n3 := heap_alloc_new (((w.alloc (.cells #[vm, vd] 25)).alloc (.cells #[x0, x1, x2, x3, x4, x5, x6] 31)).alloc (.cells #[.int .i64 fuel] 3)) (.cells #[.int .i64 calls] 3)
 simp only [World.size_alloc] at n1 n2 n3
 refine ⟨rfl, ((((Below.refl _ w).alloc (Nat.le_refl _) _).alloc (by simp) _).alloc (by simp <;> omega) _).alloc (by simp <;> omega) _, ?_, ?_, ?_, n3⟩
 · exact (Below.heap_alloc _ _ _ (by simp <;> omega)).trans ((Below.heap_alloc _ _ _ (by simp <;> omega)).trans ((Below.heap_alloc _ _ _ (by simp)).trans n0))
 · exact (Below.heap_alloc _ _ _ (by simp <;> omega)).trans ((Below.heap_alloc _ _ _ (by simp)).trans n1)
 · exact (Below.heap_alloc _ _ _ (by simp)).trans n2
end Go.Proofs.YtepcpgdfbaklfaaGreatDoor
