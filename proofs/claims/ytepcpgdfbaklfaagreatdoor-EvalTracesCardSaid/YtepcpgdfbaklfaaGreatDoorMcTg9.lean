/- A template that memory has room for. No condition. -/
import Derived.Test.YtepcpgdfbaklfaaGreatDoorMcLibv
import Derived.Test.YtepcpgdfbaklfaaGreatDoorMcE0
import Derived.Deep.Slices
import Derived.Lib.SmallJoins
import Derived.ProofKit
import Derived.HandedShaped
import Derived.Test.YtepcpgdfbaklfaaGreatDoorMcF1
import Derived.Test.YtepcpgdfbaklfaaGreatDoorMcF0
import Derived.Test.YtepcpgdfbaklfaaGreatDoorRows
import Derived.Test.YtepcpgdfbaklfaaGreatDoorMcTp0
import Derived.WalkKit
import Derived.OpenShut
import Derived.ShutString
import Derived.ChangeOld
import Derived.Below
import Derived.LaidLaws
import GoSem.PinnedTables
import Derived.KernelRfl
import Derived.Lay
import Derived.Lib.LaidU8T
import Derived.ChangeSlices
import Derived.Carry
namespace Go.Proofs.YtepcpgdfbaklfaaGreatDoor
structure TmW (t : Tm) : Prop where
 main : t.main.wf ∧ t.main.len ≤ 140737488351232
 len : t.defs.length ≤ 140737488351232
 defs : ∀ d ∈ t.defs, d.name.size ≤ 140737488351232 ∧ d.kids.wf ∧ d.kids.len ≤ 140737488351232
set_option linter.unusedSimpArgs false
set_option linter.unusedVariables false
open Go.RowKit Go.Shelf Go.ChangeShapes Go.WideShapes Go.Joins
structure TmIn (t : Tm) (vm vd : Value) (w : World) : Prop where
 wide : TmW t
 main : Parts (· < w.heap.size) w vm t.main
 defs : Defs (· < w.heap.size) w vd t.defs
def Rc {H : Type} (T : TypeId) (d : DataW H) : Prop := (d.weights Tryz.prog T).all (· ≤ reachBytes) = true
theorem rc_string {H : Type} {T : TypeId} {l : List UInt8} (h : Rc (H := H) T (.lit (.string l))) : l.length ≤ 140737488351232 := by
 unfold Rc at h
 rw [DataW.weights] at h
 have h1 := List.all_eq_true.1 h l.length (by simp)
 exact of_decide_eq_true h1
theorem wAll_mem {H : Type} {e : TypeId} : ∀ (ds : List (DataW H)), (DataW.weightsAll Tryz.prog e ds).all (· ≤ reachBytes) = true → ∀ d ∈ ds, Rc e d := by
 intro ds
 induction ds with
 | nil => intro _ d hd; cases hd
 | cons x ds ih =>
   intro h d hd
   rw [DataW.weightsAll, List.all_append, Bool.and_eq_true] at h
   rcases List.mem_cons.1 hd with rfl | hd
   · exact h.1
   · exact ih h.2 d hd
theorem wEach_get {H : Type} : ∀ (ts : List TypeId) (ds : List (DataW H)), (DataW.weightsEach Tryz.prog ts ds).all (· ≤ reachBytes) = true → ∀ (i : Nat) t d, ts[i]? = some t → ds[i]? = some d → Rc t d := by
 intro ts
 induction ts with
 | nil => intro ds _ i t d h; simp at h
 | cons x ts ih =>
   intro ds h i t d h1 h2
   cases ds with
   | nil => simp at h2
   | cons y ds =>
     rw [DataW.weightsEach, List.all_append, Bool.and_eq_true] at h
     cases i with
     | zero => simp at h1 h2; subst h1; subst h2; exact h.1
     | succ i => exact ih ds h.2 i t d (by simpa using h1) (by simpa using h2)
theorem rc_slice {H : Type} {T e : TypeId} (ht : Tryz.prog.underlying T = some (.slice e)) {es sp : List (DataW H)} (h : Rc T (.slice es sp)) : (es.length + sp.length) * Tryz.prog.bytesOf e ≤ 140737488351232 ∧ ∀ d ∈ es, Rc e d := by
 unfold Rc at h
 rw [DataW.weights, ht] at h
 simp only [List.all_cons, List.all_append, Bool.and_eq_true, decide_eq_true_eq] at h
 exact ⟨by have := h.1; unfold reachBytes at this; exact this, wAll_mem es h.2.1⟩
theorem rc_agg {H : Type} {T : TypeId} {fs : Array Field} (ht : Tryz.prog.underlying T = some (.struct fs)) {ps : List (DataW H)} (h : Rc T (.agg ps)) : ∀ (i : Nat) f d, fs[i]? = some f → ps[i]? = some d → Rc f.type d := by
 unfold Rc at h
 rw [DataW.weights, ht] at h
 intro i f d h1 h2
 refine wEach_get _ ps h i f.type d ?_ h2
 rw [List.getElem?_map, Array.getElem?_toList, h1]; rfl
theorem list_of {α : Type} (Q : Nat → α → Prop) : ∀ n, (∀ i, i < n → ∃ s, Q i s) → ∃ l : List α, l.length = n ∧ ∀ i s, l[i]? = some s → Q i s := by
 intro n
 induction n with
 | zero => intro _; exact ⟨[], rfl, fun i s h => by simp at h⟩
 | succ n ih =>
   intro h
   obtain ⟨l, h1, h2⟩ := ih (fun i hi => h i (by omega))
   obtain ⟨s, hs⟩ := h n (by omega)
   refine ⟨l ++ [s], by simp [h1], fun i x hx => ?_⟩
   rcases Nat.lt_or_ge i l.length with hi | hi
   · rw [List.getElem?_append_left hi] at hx; exact h2 i x hx
   · rw [List.getElem?_append_right hi] at hx
     have hlt := (List.getElem?_eq_some_iff.1 hx).1
     simp at hlt
     have hil : i = n := by omega
     subst hil
     rw [h1, Nat.sub_self] at hx
     simp at hx
     subst hx; exact hs
theorem add_at (b o n j : Nat) : ((⟨b, o, none⟩ : Addr).add n).add j = ⟨b, o + n + j, none⟩ := by
 unfold Addr.add
 split <;> split <;> simp_all
 all_goals omega
section
variable {H : Type} {enc : TypeId × Value → H} {W : World} {sp : Nat → Bool} {held : Bool}
theorem bind_get {α β : Type} {x : Option α} {f : α → Option β} {y : β} (h : x.bind f = some y) : ∃ a, x = some a ∧ f a = some y := by
 cases x with
 | none => cases h
 | some a => exact ⟨a, rfl, h⟩
theorem c9 : Tryz.prog.cellsOf 9 = 1 := by kernel_rfl
theorem c54 : Tryz.prog.cellsOf 52 = 1 := by kernel_rfl
theorem c3 : Tryz.prog.cellsOf 3 = 1 := by kernel_rfl
theorem c56 : Tryz.prog.cellsOf 54 = 2 := by kernel_rfl
theorem c22 : Tryz.prog.cellsOf 22 = 1 := by kernel_rfl
theorem c43 : Tryz.prog.cellsOf 28 = 1 := by kernel_rfl
theorem c4 : Tryz.prog.cellsOf 4 = 1 := by kernel_rfl
theorem c58 : Tryz.prog.cellsOf 56 = 8 := by kernel_rfl
theorem c61 : Tryz.prog.cellsOf 70 = 3 := by kernel_rfl
theorem b9 : Tryz.prog.bytesOf 9 = 16 := by kernel_rfl
theorem b58 : Tryz.prog.bytesOf 56 = 128 := by kernel_rfl
theorem b61 : Tryz.prog.bytesOf 70 = 48 := by kernel_rfl
theorem bd_i64 {n : Int} (h : (Lit.int .i64 n).wf = true) : -9223372036854775808 ≤ n ∧ n ≤ 9223372036854775807 := by
 simp [Lit.wf, IntKind.min, IntKind.max, IntKind.bits, IntKind.signed] at h
 omega
theorem bd_u8 {n : Int} (h : (Lit.int .u8 n).wf = true) : 0 ≤ n ∧ n ≤ 255 := by
 simp [Lit.wf, IntKind.min, IntKind.max, IntKind.bits, IntKind.signed] at h
 omega
theorem open_strs {fuel : Nat} {v : Value} {y : DataW H × List MemPlace} (h : DataW.trod enc Tryz.prog W 0 sp held fuel 28 [v] = some y) (hr : Rc 28 y.1) :
 ∃ l : List ByteArray, Strs (· < W.heap.size) W v l ∧ l.length ≤ 140737488351232 ∧ ∀ s ∈ l, s.size ≤ 140737488351232 := by
 rcases DataW.trod_slice Tryz.underlying28 h with ⟨hv, -⟩ | ⟨a, len, cap, elems, rest, n, -, hv, rfl, -, hl, hm, hlen, hel, -, -⟩
 · simp at hv; subst hv
   exact ⟨[], Strs.nil _ _, Nat.zero_le _, fun s hs => by cases hs⟩
 · simp at hv; subst hv
   obtain ⟨r1, r2⟩ := rc_slice Tryz.underlying28 hr
   rw [b9] at r1
   simp only [List.length_map] at r1
   have key : ∀ i, i < len → ∃ s : ByteArray, s.size ≤ 140737488351232 ∧ W.cell? ((a.add (i * 1)).add 0) = some (.string s) := by
    intro i hi
    have h1 := hel i hi
    obtain ⟨e, he⟩ : ∃ e, elems[i]? = some e := ⟨_, List.getElem?_eq_getElem (by omega)⟩
    rw [he, c9] at h1
    obtain ⟨cs, hc, ht⟩ := bind_get h1
    obtain ⟨s, rfl, hx, hs⟩ := DataW.trod_string Tryz.underlying9 ht
    obtain ⟨-, -, hat⟩ := World.cells?_some hc
    have hr2 := r2 e.1 (List.mem_map_of_mem (List.mem_of_getElem? he))
    rw [hx] at hr2
    exact ⟨s, rc_string hr2, hat 0 (by omega)⟩
   obtain ⟨l, hl1, hl2⟩ := list_of _ len key
   refine ⟨l, ⟨some a, cap, by rw [hl1], by omega, hm, fun hne => ?_⟩, by omega, fun s hs => ?_⟩
   · have h0 : 0 < len := by
      cases l with
      | nil => exact absurd rfl hne
      | cons x l => simp at hl1; omega
     obtain ⟨s0, -, hs0⟩ := key 0 h0
     have hsp : a.spot = none := by have := World.cell?_spot hs0; simpa [Addr.add] using this
     obtain ⟨b, o, sp'⟩ := a
     dsimp only at hsp
     subst hsp
     refine ⟨b, o, rfl, ?_, fun i s hi => ?_⟩
     · have := lt_of_cell hs0
       rw [add_at] at this; exact this
     · have := (hl2 i s hi).2
       rw [add_at] at this
       rwa [show o + i * 1 + 0 = o + i by omega] at this
   · obtain ⟨i, hi⟩ := List.mem_iff_getElem?.1 hs
     exact (hl2 i s hi).1
def RowE (ok : Nat → Prop) (w : World) (h : Hd) (k e : Pt) (b o : Nat) : Prop :=
    (w.cell? ⟨b, o, none⟩ = some (.int .u8 (h.kind : Nat)) ∧ w.cell? ⟨b, o + 1, none⟩ = some (.int .i64 h.pos) ∧ w.cell? ⟨b, o + 2, none⟩ = some (.string h.text) ∧ w.cell? ⟨b, o + 3, none⟩ = some (.bool h.root) ∧
      (∃ v, w.cell? ⟨b, o + 4, none⟩ = some v ∧ Strs ok w v h.names) ∧ w.cell? ⟨b, o + 5, none⟩ = some (.string h.name)) ∧
    (∃ v, w.cell? ⟨b, o + 6, none⟩ = some v ∧ Parts ok w v k) ∧ (∃ v, w.cell? ⟨b, o + 7, none⟩ = some v ∧ Parts ok w v e)
theorem RowE.cons {ok : Nat → Prop} {w : World} {h : Hd} {k e r : Pt} {b o : Nat} (h1 : RowE ok w h k e b o) (h2 : Row ok w r b (o + 8)) : Row ok w (.cons h k e r) b o := by
 obtain ⟨q1, ⟨v, q2, a, c, rfl, q3, q4, q5⟩, ⟨v', q6, a', c', rfl, q7, q8, q9⟩⟩ := h1
 exact ⟨q1, ⟨a, c, q2, q3, q4, q5⟩, ⟨a', c', q6, q7, q8, q9⟩, h2⟩
def HdE (h : Hd) (k e : Pt) : Prop := h.wf ∧ k.wf ∧ e.wf ∧ k.len ≤ 140737488351232 ∧ e.len ≤ 140737488351232
theorem row_of {ok : Nat → Prop} {w : World} (b o n : Nat) (hE : ∀ i, i < n → ∃ h k e, HdE h k e ∧ RowE ok w h k e b (o + i * 8)) : ∀ m k, k + m = n → ∃ t : Pt, t.len = m ∧ t.wf ∧ Row ok w t b (o + k * 8) := by
 intro m
 induction m with
 | zero => intro k _; exact ⟨.nil, rfl, trivial, trivial⟩
 | succ m ih =>
   intro k hk
   obtain ⟨t, h1, h2, h3⟩ := ih (k + 1) (by omega)
   obtain ⟨h, kd, el, ⟨e1, e2, e3, e4, e5⟩, hr⟩ := hE k (by omega)
   refine ⟨.cons h kd el t, by simp [Pt.len, h1], ⟨e1, e2, e3, h2, e4, e5⟩, hr.cons ?_⟩
   rwa [show o + k * 8 + 8 = o + (k + 1) * 8 by omega]
set_option maxRecDepth 100000 in
theorem open_parts (fuel : Nat) : ∀ (v : Value) (y : DataW H × List MemPlace), DataW.trod enc Tryz.prog W 0 sp held fuel 22 [v] = some y → Rc 22 y.1 →
 ∃ t : Pt, Parts (· < W.heap.size) W v t ∧ t.wf ∧ t.len ≤ 140737488351232 := by
 induction fuel using Nat.strongRecOn with
 | _ fuel ih =>
 intro v y h hr
 rcases DataW.trod_slice Tryz.underlying22 h with ⟨hv, -⟩ | ⟨a, len, cap, elems, rest, n, hn, hv, rfl, -, hl, hm, hlen, hel, -, -⟩
 · simp at hv; subst hv
   exact ⟨.nil, Parts.nil _ _, trivial, Nat.zero_le _⟩
 · simp at hv; subst hv
   obtain ⟨r1, r2⟩ := rc_slice Tryz.underlying22 hr
   rw [b58] at r1
   simp only [List.length_map] at r1
   by_cases h0 : len = 0
   · subst h0
     exact ⟨.nil, ⟨some a, cap, rfl, Nat.zero_le _, hm, fun e => absurd rfl e⟩, trivial, Nat.zero_le _⟩
   have key : ∀ i, i < len → ∃ (cs : List Value) (e : DataW H × List MemPlace), elems[i]? = some e ∧ cs.length = 8 ∧ (∀ j, j < 8 → W.cell? ((a.add (i * 8)).add j) = cs[j]?) ∧ DataW.trod enc Tryz.prog W 0 sp held n 56 cs = some e ∧ Rc 56 e.1 := by
    intro i hi
    have h1 := hel i hi
    obtain ⟨e, he⟩ : ∃ e, elems[i]? = some e := ⟨_, List.getElem?_eq_getElem (by omega)⟩
    rw [he, c58] at h1
    obtain ⟨cs, hc, ht⟩ := bind_get h1
    obtain ⟨-, h8, hat⟩ := World.cells?_some hc
    exact ⟨cs, e, he, h8, hat, ht, r2 e.1 (List.mem_map_of_mem (List.mem_of_getElem? he))⟩
   have hsp : a.spot = none ∧ a.block < W.heap.size := by
    obtain ⟨cs, e, -, h8, hat, -⟩ := key 0 (by omega)
    have hc0 := hat 0 (by omega)
    rw [List.getElem?_eq_getElem (by omega)] at hc0
    refine ⟨by have := World.cell?_spot hc0; simpa [Addr.add] using this, by have := lt_of_cell hc0; simpa [Addr.add] using this⟩
   obtain ⟨b, o, sp'⟩ := a
   obtain ⟨hsp1, hblk⟩ := hsp
   dsimp only at hsp1 hblk
   subst hsp1
   have hE : ∀ i, i < len → ∃ h k e, HdE h k e ∧ RowE (· < W.heap.size) W h k e b (o + i * 8) := by
    intro i hi
    obtain ⟨cs, e, -, h8, hat, ht, hrc⟩ := key i hi
    obtain ⟨xs, n2, hn2, hx, -, hxl, hf⟩ := DataW.trod_struct Tryz.underlying56 ht
    match cs, h8 with
    | [v0, v1, v2, v3, v4, v5, v6, v7], _ =>
      match xs, hxl with
      | [y0, y1, y2, y3, y4, y5, y6], _ =>
        rw [hx] at hrc
        have hrf := rc_agg Tryz.underlying56 hrc
        have f0 : DataW.trod enc Tryz.prog W 0 sp held n2 52 (([v0, v1, v2, v3, v4, v5, v6, v7].drop 0).take (Tryz.prog.cellsOf 52)) = some y0 := hf 0 _ rfl
        have f1 : DataW.trod enc Tryz.prog W 0 sp held n2 3 (([v0, v1, v2, v3, v4, v5, v6, v7].drop 1).take (Tryz.prog.cellsOf 3)) = some y1 := hf 1 _ rfl
        have f2 : DataW.trod enc Tryz.prog W 0 sp held n2 9 (([v0, v1, v2, v3, v4, v5, v6, v7].drop 2).take (Tryz.prog.cellsOf 9)) = some y2 := hf 2 _ rfl
        have f3 : DataW.trod enc Tryz.prog W 0 sp held n2 54 (([v0, v1, v2, v3, v4, v5, v6, v7].drop 3).take (Tryz.prog.cellsOf 54)) = some y3 := hf 3 _ rfl
        have f4 : DataW.trod enc Tryz.prog W 0 sp held n2 9 (([v0, v1, v2, v3, v4, v5, v6, v7].drop 5).take (Tryz.prog.cellsOf 9)) = some y4 := hf 4 _ rfl
        have f5 : DataW.trod enc Tryz.prog W 0 sp held n2 22 (([v0, v1, v2, v3, v4, v5, v6, v7].drop 6).take (Tryz.prog.cellsOf 22)) = some y5 := hf 5 _ rfl
        have f6 : DataW.trod enc Tryz.prog W 0 sp held n2 22 (([v0, v1, v2, v3, v4, v5, v6, v7].drop 7).take (Tryz.prog.cellsOf 22)) = some y6 := hf 6 _ rfl
        rw [c54] at f0
        rw [c3] at f1
        rw [c9] at f2
        rw [c56] at f3
        rw [c9] at f4
        rw [c22] at f5
        rw [c22] at f6
        have g0 : DataW.trod enc Tryz.prog W 0 sp held n2 52 [v0] = some y0 := f0
        have g1 : DataW.trod enc Tryz.prog W 0 sp held n2 3 [v1] = some y1 := f1
        have g2 : DataW.trod enc Tryz.prog W 0 sp held n2 9 [v2] = some y2 := f2
        have g3 : DataW.trod enc Tryz.prog W 0 sp held n2 54 [v3, v4] = some y3 := f3
        have g4 : DataW.trod enc Tryz.prog W 0 sp held n2 9 [v5] = some y4 := f4
        have g5 : DataW.trod enc Tryz.prog W 0 sp held n2 22 [v6] = some y5 := f5
        have g6 : DataW.trod enc Tryz.prog W 0 sp held n2 22 [v7] = some y6 := f6
        have q2 : Rc 9 y2.1 := hrf 2 _ _ rfl rfl
        have q3 : Rc 54 y3.1 := hrf 3 _ _ rfl rfl
        have q4 : Rc 9 y4.1 := hrf 4 _ _ rfl rfl
        have q5 : Rc 22 y5.1 := hrf 5 _ _ rfl rfl
        have q6 : Rc 22 y6.1 := hrf 6 _ _ rfl rfl
        obtain ⟨kind, e0, -, w0⟩ := DataW.trod_int Tryz.underlying52 g0
        obtain ⟨pos, e1, -, w1⟩ := DataW.trod_int Tryz.underlying3 g1
        obtain ⟨text, e2, x2, -⟩ := DataW.trod_string Tryz.underlying9 g2
        obtain ⟨name, e4, x4, -⟩ := DataW.trod_string Tryz.underlying9 g4
        obtain ⟨kd, pk, wk, lk⟩ := ih n2 (by omega) _ _ g5 q5
        obtain ⟨el, pe, we, le⟩ := ih n2 (by omega) _ _ g6 q6
        obtain ⟨ps, n3, hn3, hp, -, hpl, hpf⟩ := DataW.trod_struct Tryz.underlying54 g3
        match ps, hpl with
        | [z0, z1], _ =>
          rw [hp] at q3
          have hrp := rc_agg Tryz.underlying54 q3
          have p0 : DataW.trod enc Tryz.prog W 0 sp held n3 4 (([v3, v4].drop 0).take (Tryz.prog.cellsOf 4)) = some z0 := hpf 0 _ rfl
          have p1 : DataW.trod enc Tryz.prog W 0 sp held n3 28 (([v3, v4].drop 1).take (Tryz.prog.cellsOf 28)) = some z1 := hpf 1 _ rfl
          rw [c4] at p0
          rw [c43] at p1
          have s0 : DataW.trod enc Tryz.prog W 0 sp held n3 4 [v3] = some z0 := p0
          have s1 : DataW.trod enc Tryz.prog W 0 sp held n3 28 [v4] = some z1 := p1
          obtain ⟨root, e3, -⟩ := DataW.trod_bool Tryz.underlying4 s0
          obtain ⟨names, hs, ln, sn⟩ := open_strs s1 (hrp 1 _ _ rfl rfl)
          simp at e0 e1 e2 e3 e4
          subst e0 e1 e2 e3 e4
          rw [x2] at q2
          rw [x4] at q4
          have t2 := rc_string q2
          have t4 := rc_string q4
          obtain ⟨a1, a2⟩ := bd_u8 w0
          obtain ⟨b1, b2⟩ := bd_i64 w1
          have at_ : ∀ j, j < 8 → W.cell? ⟨b, o + i * 8 + j, none⟩ = [Value.int .u8 kind, .int .i64 pos, .string text, .bool root, v4, .string name, v6, v7][j]? := fun j hj => by
           have := hat j hj; rwa [add_at] at this
          refine ⟨⟨kind.toNat, pos, text, root, names, name⟩, kd, el, ⟨⟨by show kind.toNat < 256; omega, b1, b2, t2, t4, ln, sn⟩, wk, we, lk, le⟩, ⟨?_, at_ 1 (by omega), at_ 2 (by omega), at_ 3 (by omega), ⟨v4, at_ 4 (by omega), hs⟩, at_ 5 (by omega)⟩, ⟨v6, at_ 6 (by omega), pk⟩, ⟨v7, at_ 7 (by omega), pe⟩⟩
          have := at_ 0 (by omega)
          rw [Nat.add_zero] at this
          rw [this]
          show some (Value.int .u8 kind) = some (.int .u8 ((kind.toNat : Nat) : Int))
          rw [show ((kind.toNat : Nat) : Int) = kind by omega]
   obtain ⟨t, h1, h2, h3⟩ := row_of b o len hE len 0 (by omega)
   refine ⟨t, ⟨some ⟨b, o, none⟩, cap, by rw [h1], by omega, hm, fun _ => ⟨b, o, rfl, hblk, by rw [Nat.zero_mul, Nat.add_zero] at h3; exact h3⟩⟩, h2, by omega⟩
set_option maxRecDepth 100000 in
theorem open_defs {fuel : Nat} {v : Value} {y : DataW H × List MemPlace} (h : DataW.trod enc Tryz.prog W 0 sp held fuel 23 [v] = some y) (hr : Rc 23 y.1) :
 ∃ l : List Df, Defs (· < W.heap.size) W v l ∧ l.length ≤ 140737488351232 ∧ ∀ d ∈ l, d.name.size ≤ 140737488351232 ∧ d.kids.wf ∧ d.kids.len ≤ 140737488351232 := by
 rcases DataW.trod_slice Tryz.underlying23 h with ⟨hv, -⟩ | ⟨a, len, cap, elems, rest, n, hn, hv, rfl, -, hl, hm, hlen, hel, -, -⟩
 · simp at hv; subst hv
   exact ⟨[], Defs.nil _ _, Nat.zero_le _, fun s hs => by cases hs⟩
 · simp at hv; subst hv
   obtain ⟨r1, r2⟩ := rc_slice Tryz.underlying23 hr
   rw [b61] at r1
   simp only [List.length_map] at r1
   by_cases h0 : len = 0
   · subst h0
     exact ⟨[], ⟨some a, cap, rfl, Nat.zero_le _, hm, fun e => absurd rfl e⟩, Nat.zero_le _, fun s hs => by cases hs⟩
   have key : ∀ i, i < len → ∃ (cs : List Value) (e : DataW H × List MemPlace), elems[i]? = some e ∧ cs.length = 3 ∧ (∀ j, j < 3 → W.cell? ((a.add (i * 3)).add j) = cs[j]?) ∧ DataW.trod enc Tryz.prog W 0 sp held n 70 cs = some e ∧ Rc 70 e.1 := by
    intro i hi
    have h1 := hel i hi
    obtain ⟨e, he⟩ : ∃ e, elems[i]? = some e := ⟨_, List.getElem?_eq_getElem (by omega)⟩
    rw [he, c61] at h1
    obtain ⟨cs, hc, ht⟩ := bind_get h1
    obtain ⟨-, h8, hat⟩ := World.cells?_some hc
    exact ⟨cs, e, he, h8, hat, ht, r2 e.1 (List.mem_map_of_mem (List.mem_of_getElem? he))⟩
   have hsp : a.spot = none ∧ a.block < W.heap.size := by
    obtain ⟨cs, e, -, h8, hat, -⟩ := key 0 (by omega)
    have hc0 := hat 0 (by omega)
    rw [List.getElem?_eq_getElem (by omega)] at hc0
    refine ⟨by have := World.cell?_spot hc0; simpa [Addr.add] using this, by have := lt_of_cell hc0; simpa [Addr.add] using this⟩
   obtain ⟨b, o, sp'⟩ := a
   obtain ⟨hsp1, hblk⟩ := hsp
   dsimp only at hsp1 hblk
   subst hsp1
   have hE : ∀ i, i < len → ∃ d : Df, (d.name.size ≤ 140737488351232 ∧ d.kids.wf ∧ d.kids.len ≤ 140737488351232) ∧ W.cell? ⟨b, o + i * 3, none⟩ = some (.string d.name) ∧ W.cell? ⟨b, o + i * 3 + 1, none⟩ = some (.int .i64 d.pos) ∧ ∃ v, W.cell? ⟨b, o + i * 3 + 2, none⟩ = some v ∧ Parts (· < W.heap.size) W v d.kids := by
    intro i hi
    obtain ⟨cs, e, -, h8, hat, ht, hrc⟩ := key i hi
    obtain ⟨xs, n2, hn2, hx, -, hxl, hf⟩ := DataW.trod_struct Tryz.underlying70 ht
    match cs, h8 with
    | [v0, v1, v2], _ =>
      match xs, hxl with
      | [y0, y1, y2], _ =>
        rw [hx] at hrc
        have hrf := rc_agg Tryz.underlying70 hrc
        have f0 : DataW.trod enc Tryz.prog W 0 sp held n2 9 (([v0, v1, v2].drop 0).take (Tryz.prog.cellsOf 9)) = some y0 := hf 0 _ rfl
        have f1 : DataW.trod enc Tryz.prog W 0 sp held n2 3 (([v0, v1, v2].drop 1).take (Tryz.prog.cellsOf 3)) = some y1 := hf 1 _ rfl
        have f2 : DataW.trod enc Tryz.prog W 0 sp held n2 22 (([v0, v1, v2].drop 2).take (Tryz.prog.cellsOf 22)) = some y2 := hf 2 _ rfl
        rw [c9] at f0
        rw [c3] at f1
        rw [c22] at f2
        have g0 : DataW.trod enc Tryz.prog W 0 sp held n2 9 [v0] = some y0 := f0
        have g1 : DataW.trod enc Tryz.prog W 0 sp held n2 3 [v1] = some y1 := f1
        have g2 : DataW.trod enc Tryz.prog W 0 sp held n2 22 [v2] = some y2 := f2
        have q0 : Rc 9 y0.1 := hrf 0 _ _ rfl rfl
        have q2 : Rc 22 y2.1 := hrf 2 _ _ rfl rfl
        obtain ⟨name, e0, x0, -⟩ := DataW.trod_string Tryz.underlying9 g0
        obtain ⟨pos, e1, -, w1⟩ := DataW.trod_int Tryz.underlying3 g1
        obtain ⟨kd, pk, wk, lk⟩ := open_parts n2 _ _ g2 q2
        simp at e0 e1
        subst e0 e1
        rw [x0] at q0
        have at_ : ∀ j, j < 3 → W.cell? ⟨b, o + i * 3 + j, none⟩ = [Value.string name, .int .i64 pos, v2][j]? := fun j hj => by
         have := hat j hj; rwa [add_at] at this
        refine ⟨⟨name, pos, kd⟩, ⟨rc_string q0, wk, lk⟩, ?_, at_ 1 (by omega), v2, at_ 2 (by omega), pk⟩
        have := at_ 0 (by omega)
        rwa [Nat.add_zero] at this
   obtain ⟨l, hl1, hl2⟩ := list_of _ len hE
   have hrow : ∀ (m : List Df) (k : Nat), (∀ i d, m[i]? = some d → l[k + i]? = some d) → DRow (· < W.heap.size) W m b (o + k * 3) := by
    intro m
    induction m with
    | nil => intro k _; exact trivial
    | cons d m ihm =>
      intro k hk
      have h1 := hl2 k d (by have := hk 0 d rfl; rwa [Nat.add_zero] at this)
      refine ⟨h1.2.1, h1.2.2.1, h1.2.2.2, ?_⟩
      have := ihm (k + 1) (fun i x hx => by have := hk (i + 1) x (by simpa using hx); rwa [show k + (i + 1) = k + 1 + i by omega] at this)
      rwa [show o + k * 3 + 3 = o + (k + 1) * 3 by omega]
   refine ⟨l, ⟨some ⟨b, o, none⟩, cap, by rw [hl1], by omega, hm, fun _ => ⟨b, o, rfl, hblk, by have := hrow l 0 (fun i d h => by rwa [Nat.zero_add]); rwa [Nat.zero_mul, Nat.add_zero] at this⟩⟩, by omega, fun d hd => ?_⟩
   obtain ⟨i, hi⟩ := List.mem_iff_getElem?.1 hd
   exact (hl2 i d hi).1
set_option maxRecDepth 100000 in
theorem open_template {r : Reach} {b0 : Nat} {v : Value} {d : DataW H} {p : List MemPlace} (hv : Value.okWide Tryz.prog W r b0 25 v) (h : DataW.Trod enc Tryz.prog W 0 sp held 25 v d p) (hr : Rc 25 d) :
 ∃ (t : Tm) (vm vd : Value), v = .agg #[vm, vd] ∧ TmIn t vm vd W := by
 obtain ⟨vm, vd, y0, y1, n, rfl, rfl, -, h0, h1⟩ := open_agg2 Tryz.underlying25 (by kernel_rfl) (by kernel_rfl) hv h
 have hrf := rc_agg Tryz.underlying25 hr
 obtain ⟨m, pm, wm, lm⟩ := open_parts n vm y0 h0 (hrf 0 _ _ rfl rfl)
 obtain ⟨ds, dd, ld, hd⟩ := open_defs h1 (hrf 1 _ _ rfl rfl)
 exact ⟨⟨m, ds⟩, vm, vd, rfl, ⟨⟨wm, lm⟩, ld, hd⟩, pm, dd⟩
theorem cV : Tryz.prog.cellsOf 31 = 7 := by kernel_rfl
theorem cVk : Tryz.prog.cellsOf 26 = 1 := by kernel_rfl
theorem cVi : Tryz.prog.cellsOf 2 = 1 := by kernel_rfl
theorem cVu : Tryz.prog.cellsOf 27 = 1 := by kernel_rfl
theorem cVs : Tryz.prog.cellsOf 29 = 1 := by kernel_rfl
theorem bV : Tryz.prog.bytesOf 31 = 88 := by kernel_rfl
theorem bd_u64 {n : Int} (h : (Lit.int .u64 n).wf = true) : 0 ≤ n ∧ n ≤ 18446744073709551615 := by
 simp [Lit.wf, IntKind.min, IntKind.max, IntKind.bits, IntKind.signed] at h
 omega
open Ev in
def RowV (ok : Nat → Prop) (w : World) (h : Vh) (k : Vl) (b o : Nat) : Prop :=
    (w.cell? ⟨b, o, none⟩ = some (.int .u8 (h.kind : Nat)) ∧ w.cell? ⟨b, o + 1, none⟩ = some (.bool h.b) ∧ w.cell? ⟨b, o + 2, none⟩ = some (.int .i64 h.n) ∧ w.cell? ⟨b, o + 3, none⟩ = some (.int .u64 (h.bits : Nat)) ∧ w.cell? ⟨b, o + 4, none⟩ = some (.string h.text) ∧
      (∃ v, w.cell? ⟨b, o + 5, none⟩ = some v ∧ Strs ok w v h.keys)) ∧
    (∃ v, w.cell? ⟨b, o + 6, none⟩ = some v ∧ Vals ok w v k)
open Ev in
theorem RowV.cons {ok : Nat → Prop} {w : World} {h : Vh} {k r : Vl} {b o : Nat} (h1 : RowV ok w h k b o) (h2 : RowX ok w r b (o + 7)) : RowX ok w (.cons h k r) b o := by
 obtain ⟨q1, v, q2, a, c, rfl, q3, q4, q5⟩ := h1
 exact ⟨q1, ⟨a, c, q2, q3, q4, q5⟩, h2⟩
open Ev in
theorem rowv_of {ok : Nat → Prop} {w : World} (b o n : Nat) (hE : ∀ i, i < n → ∃ h k, (h.wf ∧ wfX k ∧ k.len ≤ 140737488351232) ∧ RowV ok w h k b (o + i * 7)) : ∀ m k, k + m = n → ∃ t : Vl, t.len = m ∧ wfX t ∧ RowX ok w t b (o + k * 7) := by
 intro m
 induction m with
 | zero => intro k _; exact ⟨.nil, rfl, trivial, trivial⟩
 | succ m ih =>
   intro k hk
   obtain ⟨t, h1, h2, h3⟩ := ih (k + 1) (by omega)
   obtain ⟨h, kd, ⟨e1, e2, e3⟩, hr⟩ := hE k (by omega)
   refine ⟨.cons h kd t, by simp [Vl.len, h1], ⟨e1, e2, h2, e3⟩, hr.cons ?_⟩
   rwa [show o + k * 7 + 7 = o + (k + 1) * 7 by omega]
open Ev in
set_option maxRecDepth 100000 in
theorem open_cells {fuel : Nat} (ih : ∀ n, n < fuel → ∀ (v : Value) (y : DataW H × List MemPlace), DataW.trod enc Tryz.prog W 0 sp held n 29 [v] = some y → Rc 29 y.1 →
 ∃ t : Vl, Vals (· < W.heap.size) W v t ∧ wfX t ∧ t.len ≤ 140737488351232)
 {cs : List Value} {e : DataW H × List MemPlace} (h7 : cs.length = 7) (ht : DataW.trod enc Tryz.prog W 0 sp held fuel 31 cs = some e) (hrc : Rc 31 e.1) :
 ∃ (h : Vh) (k : Vl) (vk vi : Value), cs = [.int .u8 (h.kind : Nat), .bool h.b, .int .i64 h.n, .int .u64 (h.bits : Nat), .string h.text, vk, vi] ∧ Strs (· < W.heap.size) W vk h.keys ∧ Vals (· < W.heap.size) W vi k ∧ h.wf ∧ wfX k ∧ k.len ≤ 140737488351232 := by
 obtain ⟨xs, n2, hn2, hx, -, hxl, hf⟩ := DataW.trod_struct Tryz.underlying31 ht
 match cs, h7 with
 | [v0, v1, v2, v3, v4, v5, v6], _ =>
   match xs, hxl with
   | [y0, y1, y2, y3, y4, y5, y6], _ =>
     rw [hx] at hrc
     have hrf := rc_agg Tryz.underlying31 hrc
     have f0 : DataW.trod enc Tryz.prog W 0 sp held n2 26 (([v0, v1, v2, v3, v4, v5, v6].drop 0).take (Tryz.prog.cellsOf 26)) = some y0 := hf 0 _ rfl
     have f1 : DataW.trod enc Tryz.prog W 0 sp held n2 4 (([v0, v1, v2, v3, v4, v5, v6].drop 1).take (Tryz.prog.cellsOf 4)) = some y1 := hf 1 _ rfl
     have f2 : DataW.trod enc Tryz.prog W 0 sp held n2 2 (([v0, v1, v2, v3, v4, v5, v6].drop 2).take (Tryz.prog.cellsOf 2)) = some y2 := hf 2 _ rfl
     have f3 : DataW.trod enc Tryz.prog W 0 sp held n2 27 (([v0, v1, v2, v3, v4, v5, v6].drop 3).take (Tryz.prog.cellsOf 27)) = some y3 := hf 3 _ rfl
     have f4 : DataW.trod enc Tryz.prog W 0 sp held n2 9 (([v0, v1, v2, v3, v4, v5, v6].drop 4).take (Tryz.prog.cellsOf 9)) = some y4 := hf 4 _ rfl
     have f5 : DataW.trod enc Tryz.prog W 0 sp held n2 28 (([v0, v1, v2, v3, v4, v5, v6].drop 5).take (Tryz.prog.cellsOf 28)) = some y5 := hf 5 _ rfl
     have f6 : DataW.trod enc Tryz.prog W 0 sp held n2 29 (([v0, v1, v2, v3, v4, v5, v6].drop 6).take (Tryz.prog.cellsOf 29)) = some y6 := hf 6 _ rfl
     rw [cVk] at f0
     rw [c4] at f1
     rw [cVi] at f2
     rw [cVu] at f3
     rw [c9] at f4
     rw [c43] at f5
     rw [cVs] at f6
     have g0 : DataW.trod enc Tryz.prog W 0 sp held n2 26 [v0] = some y0 := f0
     have g1 : DataW.trod enc Tryz.prog W 0 sp held n2 4 [v1] = some y1 := f1
     have g2 : DataW.trod enc Tryz.prog W 0 sp held n2 2 [v2] = some y2 := f2
     have g3 : DataW.trod enc Tryz.prog W 0 sp held n2 27 [v3] = some y3 := f3
     have g4 : DataW.trod enc Tryz.prog W 0 sp held n2 9 [v4] = some y4 := f4
     have g5 : DataW.trod enc Tryz.prog W 0 sp held n2 28 [v5] = some y5 := f5
     have g6 : DataW.trod enc Tryz.prog W 0 sp held n2 29 [v6] = some y6 := f6
     have q4 : Rc 9 y4.1 := hrf 4 _ _ rfl rfl
     obtain ⟨kind, e0, -, w0⟩ := DataW.trod_int Tryz.underlying26 g0
     obtain ⟨bo, e1, -⟩ := DataW.trod_bool Tryz.underlying4 g1
     obtain ⟨nn, e2, -, w2⟩ := DataW.trod_int Tryz.underlying2 g2
     obtain ⟨bits, e3, -, w3⟩ := DataW.trod_int Tryz.underlying27 g3
     obtain ⟨text, e4, x4, -⟩ := DataW.trod_string Tryz.underlying9 g4
     obtain ⟨keys, hs, ln, sn⟩ := open_strs g5 (hrf 5 _ _ rfl rfl)
     obtain ⟨kd, pk, wk, lk⟩ := ih n2 (by omega) _ _ g6 (hrf 6 _ _ rfl rfl)
     simp at e0 e1 e2 e3 e4
     subst e0 e1 e2 e3 e4
     rw [x4] at q4
     have t4 := rc_string q4
     obtain ⟨a1, a2⟩ := bd_u8 w0
     obtain ⟨b1, b2⟩ := bd_i64 w2
     obtain ⟨d1, d2⟩ := bd_u64 w3
     refine ⟨⟨kind.toNat, bo, nn, bits.toNat, text, keys⟩, kd, v5, v6, ?_, hs, pk, ⟨by show kind.toNat < 256; omega, b1, b2, by show bits.toNat < _; omega, t4, ln, sn⟩, wk, lk⟩
     dsimp only
     rw [show ((kind.toNat : Nat) : Int) = kind by omega, show ((bits.toNat : Nat) : Int) = bits by omega]
open Ev in
set_option maxRecDepth 100000 in
theorem open_vals (fuel : Nat) : ∀ (v : Value) (y : DataW H × List MemPlace), DataW.trod enc Tryz.prog W 0 sp held fuel 29 [v] = some y → Rc 29 y.1 →
 ∃ t : Vl, Vals (· < W.heap.size) W v t ∧ wfX t ∧ t.len ≤ 140737488351232 := by
 induction fuel using Nat.strongRecOn with
 | _ fuel ih =>
 intro v y h hr
 rcases DataW.trod_slice Tryz.underlying29 h with ⟨hv, -⟩ | ⟨a, len, cap, elems, rest, n, hn, hv, rfl, -, hl, hm, hlen, hel, -, -⟩
 · simp at hv; subst hv
   exact ⟨.nil, Vals.nil _ _, trivial, Nat.zero_le _⟩
 · simp at hv; subst hv
   obtain ⟨r1, r2⟩ := rc_slice Tryz.underlying29 hr
   rw [bV] at r1
   simp only [List.length_map] at r1
   by_cases h0 : len = 0
   · subst h0
     exact ⟨.nil, ⟨some a, cap, rfl, Nat.zero_le _, hm, fun e => absurd rfl e⟩, trivial, Nat.zero_le _⟩
   have key : ∀ i, i < len → ∃ (cs : List Value) (e : DataW H × List MemPlace), elems[i]? = some e ∧ cs.length = 7 ∧ (∀ j, j < 7 → W.cell? ((a.add (i * 7)).add j) = cs[j]?) ∧ DataW.trod enc Tryz.prog W 0 sp held n 31 cs = some e ∧ Rc 31 e.1 := by
    intro i hi
    have h1 := hel i hi
    obtain ⟨e, he⟩ : ∃ e, elems[i]? = some e := ⟨_, List.getElem?_eq_getElem (by omega)⟩
    rw [he, cV] at h1
    obtain ⟨cs, hc, ht⟩ := bind_get h1
    obtain ⟨-, h8, hat⟩ := World.cells?_some hc
    exact ⟨cs, e, he, h8, hat, ht, r2 e.1 (List.mem_map_of_mem (List.mem_of_getElem? he))⟩
   have hsp : a.spot = none ∧ a.block < W.heap.size := by
    obtain ⟨cs, e, -, h8, hat, -⟩ := key 0 (by omega)
    have hc0 := hat 0 (by omega)
    rw [List.getElem?_eq_getElem (by omega)] at hc0
    refine ⟨by have := World.cell?_spot hc0; simpa [Addr.add] using this, by have := lt_of_cell hc0; simpa [Addr.add] using this⟩
   obtain ⟨b, o, sp'⟩ := a
   obtain ⟨hsp1, hblk⟩ := hsp
   dsimp only at hsp1 hblk
   subst hsp1
   have hE : ∀ i, i < len → ∃ h k, (h.wf ∧ wfX k ∧ k.len ≤ 140737488351232) ∧ RowV (· < W.heap.size) W h k b (o + i * 7) := by
    intro i hi
    obtain ⟨cs, e, -, h7, hat, ht, hrc⟩ := key i hi
    obtain ⟨h, k, vk, vi, rfl, hs, pk, wh, wk, lk⟩ := open_cells (fun m hm => ih m (by omega)) h7 ht hrc
    have at_ : ∀ j, j < 7 → W.cell? ⟨b, o + i * 7 + j, none⟩ = [Value.int .u8 (h.kind : Nat), .bool h.b, .int .i64 h.n, .int .u64 (h.bits : Nat), .string h.text, vk, vi][j]? := fun j hj => by
     have := hat j hj; rwa [add_at] at this
    exact ⟨h, k, ⟨wh, wk, lk⟩, ⟨at_ 0 (by omega), at_ 1 (by omega), at_ 2 (by omega), at_ 3 (by omega), at_ 4 (by omega), vk, at_ 5 (by omega), hs⟩, vi, at_ 6 (by omega), pk⟩
   obtain ⟨t, h1, h2, h3⟩ := rowv_of b o len hE len 0 (by omega)
   exact ⟨t, ⟨some ⟨b, o, none⟩, cap, by rw [h1], by omega, hm, fun _ => ⟨b, o, rfl, hblk, by rw [Nat.zero_mul, Nat.add_zero] at h3; exact h3⟩⟩, h2, by omega⟩
end
open Go.RowKit Go.Shelf Go.ChangeShapes Go.WideShapes Go.Joins Ev
variable {H : Type} {enc : TypeId × Value → H} {W : World} {sp : Nat → Bool} {held : Bool}
set_option maxRecDepth 100000 in
theorem open_value {r : Reach} {b0 : Nat} {v : Value} {d : DataW H} {p : List MemPlace} (hv : Value.okWide Tryz.prog W r b0 31 v) (h : DataW.Trod enc Tryz.prog W 0 sp held 31 v d p) (hr : Rc 31 d) :
 ∃ (x : Va) (a1 : Option Addr) (c1 : Nat) (a2 : Option Addr) (c2 : Nat), v = .agg #[.int .u8 (x.h.kind : Nat), .bool x.h.b, .int .i64 x.h.n, .int .u64 (x.h.bits : Nat), .string x.h.text, .slice a1 x.h.keys.length c1, .slice a2 x.items.len c2] ∧ ValS (· < W.heap.size) W x a1 c1 a2 c2 ∧ Va.wf x := by
 obtain ⟨cs, rfl, hsz⟩ := okWide_struct Tryz.underlying31 hv
 obtain ⟨fuel, hf⟩ := h
 have h7 : cs.toList.length = 7 := by rw [Array.length_toList, hsz, cV]
 obtain ⟨hh, k, vk, vi, hcs, hs, hk, w1, w2, w3⟩ := open_cells (fun n _ v y h hr => open_vals n v y h hr) h7 hf hr
 obtain ⟨a1, c1, rfl⟩ := hs.cases
 obtain ⟨a2, c2, rfl, -⟩ := id hk
 refine ⟨⟨hh, k⟩, a1, c1, a2, c2, ?_, ⟨hs, hk⟩, w1, w2, w3⟩
 obtain ⟨l⟩ := cs
 simp only at hcs
 rw [hcs]
open Go.RowKit Go.Shelf Go.Lib Go.ChangeShapes
theorem returns_laid {H : Type} {enc : TypeId × Value → H} {C : Checked} {os : Os} {f : FuncId} {fn : Func} {s : ChangeSpec} {conds : List PathCond} {apart fresh handsOn again : Bool} {X : World → Array Value → Prop}
 (hX : ∀ (w w' : World) (args : Array Value), w.heap = w'.heap → X w args → X w' args)
 (own : ownKnob C.prog.godebug = none) (started : os.Started) (noInit : C.prog.inits.idxOf? f = none) (hfn : C.prog.funcs[f]? = some fn)
 (witness : ∃ (w : World) (tape : Tape) (i : Input), w.os = os ∧ (w.forCall tape i).Shaped C.prog ∧ i.vars = [] ∧ Input.okWide C.prog (w.forCall tape i) .any w.heap.size f i ∧
   ((s.pre enc C.prog fn conds apart (w.forCall tape i).memory i.args ∧ X (w.forCall tape i).memory i.args) ∧ sizedMet enc C.prog fn (OpenSpec.ofChange s) apart (w.forCall tape i).memory i.args) ∧ ({} : Assume).holds C.prog (lone (Frame.enter C.prog f i.args .normal) [] (w.forCall tape i)))
 (contract : ∀ (W : World) (base : Nat) (args : Array Value) (ds gs : List (DataW H)) (before : List MemPlace),
   (∀ (j : Nat) t v, fn.params[j]? = some t → args[j]? = some v → Value.okWide C.prog W .any base t v) →
   DataW.Whole enc C.prog fn.params.toList s.vars apart W args.toList ds gs before →
   (DataW.weightsEach C.prog (fn.params.toList ++ (OpenSpec.ofChange s).bare.plain.varTypes C.prog) (ds ++ gs)).all (· ≤ reachBytes) = true →
   X W args → W.ShapedOpen C.prog →
   Calls C.prog f args W fun e W' => ∃ v, e = .returned v ∧ s.post enc C.prog fn apart fresh handsOn again W args v W') :
 ReturnsInHanded {} C os f .any (fun w args => (s.pre enc C.prog fn conds apart w args ∧ X w args) ∧ sizedMet enc C.prog fn (OpenSpec.ofChange s) apart w args) (s.post enc C.prog fn apart fresh handsOn again) := by
 refine returnsInHanded_of_calls own started noInit witness ?_
 intro w tape i _ hsh _ hok hpre hholds
 obtain ⟨_, _, _, fn', hfn', _, _, _, _, hval⟩ := hok
 obtain rfl : fn' = fn := Option.some.inj (hfn'.symm.trans hfn)
 obtain ⟨⟨-, hx⟩, -, ds, gs, before, hw, hz⟩ := hpre
 have hw' := DataW.Whole.of_heap (w' := w.forCall tape i) (by rfl) hw
 refine (contract (w.forCall tape i) w.heap.size i.args ds gs before hval hw' hz (hX _ _ _ (by rfl) hx) hsh).mono fun e W' ⟨v, he, hp⟩ => ?_
 subst he
 exact ChangeSpec.post_blind hp
set_option maxRecDepth 100000 in
theorem first_eq : Pinned.utf8First = firstData := by kernel_rfl
theorem accept_eq : (Rows.laid_unicode_utf8_acceptRanges : DataW Unit) = acceptData := by kernel_rfl
def laidU8 : List (String × DataW Unit) := [("unicode/utf8.acceptRanges", Rows.laid_unicode_utf8_acceptRanges), ("unicode/utf8.first", Rows.laid_unicode_utf8_first)]
theorem tabs_of_laid {w : World} (h : laidMet Tryz.prog laidU8 w) : Tabs w := by
 refine utf8Tabs_of_readsT (ρ := Lb.ren) { Lb.n197 with } ⟨by kernel_rfl, by kernel_rfl, by kernel_rfl, by kernel_rfl, by kernel_rfl, by kernel_rfl, by kernel_rfl⟩ ?_ ?_
 · exact first_eq ▸ laidMet.reads h (.tail _ (.head _))
 · exact accept_eq ▸ laidMet.reads h (.head _)
noncomputable def laidWorld (os : Os) : World := (World.holding Tryz.prog os ⟨#[], #[], []⟩).layVars Tryz.prog laidU8
theorem laidWorld_os (os : Os) : (laidWorld os).os = os := World.layVars_os _ _ _
theorem laidWorld_met (os : Os) (args : Array Value) : laidMet Tryz.prog laidU8 ((laidWorld os).forCall (fun _ _ => 0) ⟨#[], args, []⟩).memory := by
 have e1 : (laidU8.filter fun x => (laidU8.map (·.1)).contains x.1) = laidU8 := by kernel_rfl
 have e2 : (laidU8.filter fun x => !(laidU8.map (·.1)).contains x.1) = [] := by kernel_rfl
 have h : laidMet Tryz.prog laidU8 (laidWorld os) := laidMet_layVars (w0 := World.holding Tryz.prog os ⟨#[], #[], []⟩) (laidU8.map (·.1)) [] (by rw [e1]; rfl) (by rw [e1]; kernel_rfl) (by rw [e1]; kernel_rfl) (by rw [e2]; exact LaidIn.none)
 exact h.of_heap (by simp [World.memory, World.forCall, Input.heap])
end Go.Proofs.YtepcpgdfbaklfaaGreatDoor
