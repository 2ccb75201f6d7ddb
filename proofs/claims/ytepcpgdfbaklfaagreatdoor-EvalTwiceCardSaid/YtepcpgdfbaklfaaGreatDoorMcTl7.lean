/- (*tmpl.look).parts where there is no part. The condition: as XTlk's. -/
import Derived.Test.YtepcpgdfbaklfaaGreatDoorMcTl0
import Derived.Test.YtepcpgdfbaklfaaGreatDoorMcTl2
import Derived.Test.YtepcpgdfbaklfaaGreatDoorTl4C
import Derived.Test.YtepcpgdfbaklfaaGreatDoorTl5C
import Derived.Test.YtepcpgdfbaklfaaGreatDoorMcTso
set_option linter.unusedVariables false
namespace Go.Proofs.YtepcpgdfbaklfaaGreatDoor
open Go.RowKit Go.Shelf
theorem parts_some (B bx : Nat) (hBx : B ≤ bx) (hgl : GlB B) (ds : List Df) (hdl : ds.length ≤ 16777216) (dv : Value) (n : Nat) (ih : LkSaid B bx ds dv n)
 (K : ∀ t hn deep0 free c many deep tw no w HSM hm hd hdp HGD HDF h1 h2 HLK b o hlc hdc, ∀ u, u ∈ [0, 1, 2, 3, 5] → (partsCap B bx hBx hgl ds hdl dv n ih t hn deep0 free c many deep tw no w HSM hm hd hdp HGD HDF h1 h2 HLK b o hlc hdc).1 u) : LkSaid B bx ds dv (n + 1) := by
 intro t hn deep0 free v many deep tw no w hsm hm hd hdp hgd hdf hp hlk
 obtain ⟨a, c, rfl, h1, h2, h3⟩ := hp
 have hlc := len_le_cnt t
 have hdc := deep_le_cnt t
 obtain ⟨b, o, hrow⟩ : ∃ b o, t ≠ .nil → a = some ⟨b, o, none⟩ ∧ b < B ∧ Row (· < B) w t b o := by
  by_cases ht : t = .nil
  · exact ⟨0, 0, fun h => absurd ht h⟩
  · obtain ⟨b, o, r⟩ := h3 ht
    exact ⟨b, o, fun _ => r⟩
 exact (partsCap B bx hBx hgl ds hdl dv n ih t hn deep0 free c many deep tw no w hsm hm hd hdp hgd hdf h1 h2 hlk b o hlc hdc).2 a hrow (K t hn deep0 free c many deep tw no w hsm hm hd hdp hgd hdf h1 h2 hlk b o hlc hdc)
theorem lk_all (B bx : Nat) (ds : List Df) (dv : Value) (S : ∀ n, LkSaid B bx ds dv n → LkSaid B bx ds dv (n + 1)) (n : Nat) : LkSaid B bx ds dv n := by
 induction n with
 | zero => intro t hn; omega
 | succ n ih => exact S n ih
theorem parts_calls (B bx : Nat) (hBx : B ≤ bx) (hgl : GlB B) (ds : List Df) (hdl : ds.length ≤ 16777216) (dv : Value) (n : Nat) : LkSaid B bx ds dv n := by
 refine lk_all B bx ds dv (fun n ih => parts_some B bx hBx hgl ds hdl dv n ih ?_) n
 intro t hn deep0 free c many deep tw no w HSM hm hd hdp HGD HDF h1 h2 HLK b o hlc hdc u hu
 simp only [List.mem_cons, List.mem_nil_iff, or_false] at hu
 rcases hu with rfl | rfl | rfl | rfl | rfl
 · exact parts_k0 B bx hBx hgl ds hdl dv n ih t hn deep0 free c many deep tw no w HSM hm hd hdp HGD HDF h1 h2 HLK b o hlc hdc
 · exact parts_k1 B bx hBx hgl ds hdl dv n ih t hn deep0 free c many deep tw no w HSM hm hd hdp HGD HDF h1 h2 HLK b o hlc hdc
 · exact parts_k2 B bx hBx hgl ds hdl dv n ih t hn deep0 free c many deep tw no w HSM hm hd hdp HGD HDF h1 h2 HLK b o hlc hdc
 · exact parts_k3 B bx hBx hgl ds hdl dv n ih t hn deep0 free c many deep tw no w HSM hm hd hdp HGD HDF h1 h2 HLK b o hlc hdc
 · exact parts_k5 B bx hBx hgl ds hdl dv n ih t hn deep0 free c many deep tw no w HSM hm hd hdp HGD HDF h1 h2 HLK b o hlc hdc
set_option linter.unusedSimpArgs false
attribute [local go_sem ↓] Go.wp_at_zero Go.wp_at_succ
def nm (l : List Df) : List By := l.map fun d => bl d.name
theorem nm_take (l : List Df) (k : Nat) (d : Df) (h : l[k]? = some d) : nm (l.take (k + 1)) = nm (l.take k) ++ [bl d.name] := by
 unfold nm
 rw [List.take_add_one, h]; simp
theorem drop_of (l : List Df) (k : Nat) (d : Df) (h : l[k]? = some d) : l.drop k = d :: l.drop (k + 1) := by
 have hlt := (List.getElem?_eq_some_iff.1 h).1
 rw [List.drop_eq_getElem_cons hlt, (List.getElem?_eq_some_iff.1 h).2]
theorem deepD_le (l : List Df) : deepD l ≤ 1 + cntD l := by
 induction l with
 | nil => simp [deepD]
 | cons d l ih => rw [deepD_cons, cntD_cons]; have := deep_le_cnt d.kids; omega
theorem Gr.row {X M : Nat} {a b c : World} (h : Gr X a b) (k : b.grownBy c (some M)) (hM : a.heap.size ≤ M) : Gr X a c :=
 ⟨k.os.trans h.os, k.tape.trans h.tape, k.output.trans h.output, Nat.le_trans h.size k.size, fun i hi hn => (k.block i (Nat.lt_of_lt_of_le hi h.size) (fun e => by injection e; omega)).trans (h.block i hi hn)⟩
def CheckR (t : Tm) (w : World) (e : Ending) (w' : World) : Prop := e = .returned (.int .i64 (t.check : Nat)) ∧ Below w.heap.size w w'
theorem ck_out {w W W' : World} {t : Tm} {a : Act} {ve : Value} {X : Nat} (hX : w.heap.size + 1 + 1 = X) (h0 : Below w.heap.size w W) (hg : Gr X W W') (hsz : w.heap.size ≤ W.heap.size) (hd : a.defers = closeK (w.heap.size + 1)) (h2 : a.tmps.getD 2 undef = .pointer (some ⟨w.heap.size + 1, 0, none⟩))
 (he : W'.heap[w.heap.size + 1]? = some (.cells #[ve] 37 (0, 0))) (hc : t.check = 190) :
 bodyPostD Tryz.prog Tryz.f22 (CheckR t w) (.panic [{ v := wrongV 190 0, recovered := false }]) a W' := by
 refine check_panic 190 0 hd h2 he (fun w' h => ?_)
 refine ⟨by rw [hc]; rfl, h0.trans ((hg.to_below hsz (by omega)).trans (h.to_below (Nat.le_trans hsz hg.size) (by omega)))⟩
set_option maxRecDepth 100000 in
set_option maxHeartbeats 40000000 in
theorem check_calls (t : Tm) (hz : TmZ t) (vm vd : Value) (w : World) (hg : Gd w) (hp : Parts (· < w.heap.size) w vm t.main) (hd : Defs (· < w.heap.size) w vd t.defs) : Calls Tryz.prog 22 #[.agg #[vm, vd]] w (CheckR t w) := by
 have SC : Hid (∀ W, Below w.heap.size w W → Calls Tryz.prog 40 #[.agg #[vm, vd]] W fun e w' => e = .returned (.string (mkB t.src)) ∧ Below W.heap.size W w') := fun W hW =>
  source_calls t hz vm vd W ((hp.kept (Kept.of_below hW)).mono (fun b hb => Nat.lt_of_lt_of_le hb hW.size)) ((hd.kept (Kept.of_below hW)).mono (fun b hb => Nat.lt_of_lt_of_le hb hW.size))
 have hsrc := hz.src
 have hmk : (mkB t.src).size = t.src.length := rfl
 obtain ⟨main, defs⟩ := t
 obtain ⟨z1, z2, z3, z4, -⟩ := hz
 dsimp only at z1 z2 z3 z4 hp hd
 have PK := Lib.hid (parts_calls w.heap.size (w.heap.size + 1 + 1) (by omega) hg.glB defs z4 vd)
 have GW : Hid (∀ W, Below w.heap.size w W → Gd W) := fun W hW => hg.belowB hg.glB hW
 have HDF : Hid (∀ W, Below w.heap.size w W → Defs (· < w.heap.size) W vd defs) := fun W hW => hd.kept (Kept.of_below hW)
 have HPM : Hid (∀ W, Below w.heap.size w W → Parts (· < w.heap.size) W vm main) := fun W hW => hp.kept (Kept.of_below hW)
 obtain ⟨am, cm, rfl, m1, m2, -⟩ := hp
 obtain ⟨a, c, rfl, h1, h2, h3⟩ := hd
 have hc64 : c ≤ 9223372036854775807 := by unfold maxLen at h2; exact h2
 obtain ⟨b, o, hrow⟩ : ∃ b o, (defs ≠ [] → a = some ⟨b, o, none⟩ ∧ b < w.heap.size ∧ DRow (· < w.heap.size) w defs b o) := by
  by_cases hn : defs = []
  · exact ⟨0, 0, fun h => absurd hn h⟩
  · obtain ⟨b, o, h⟩ := h3 hn
    exact ⟨b, o, fun _ => h⟩
 have HR := Lib.hid hrow
 have HZ2 := Lib.hid z2
 have HSU : Hid (main.cnt + cntD defs ≤ 16000000) := z3
 have hHSU := HSU.out
 have hmm := @run_makeMap Tryz.prog
 have hmf : ∀ (fn : Fn) (first cap : Array Value) (w : World), (Instr.makeFunc fn first cap).run Tryz.prog w = .ok (.func fn first cap) w := fun _ _ _ _ => rfl
 clear h3 hrow z2 z3
 have HB0 : Hid (Below w.heap.size w (((w.alloc (.cells #[.slice am main.len cm, .slice a defs.length c] 25)).alloc (.cells #[.int .i64 0] 37)).alloc (.cells #[.slice a defs.length c, .int .i64 0, .int .i64 0, .bool false, .bool false] 87))) := (((Below.refl w.heap.size w).alloc (Nat.le_refl _) _).alloc (by simp) _).alloc (by simp; omega) _
 have HS0 : Hid ((((w.alloc (.cells #[.slice am main.len cm, .slice a defs.length c] 25)).alloc (.cells #[.int .i64 0] 37)).alloc (.cells #[.slice a defs.length c, .int .i64 0, .int .i64 0, .bool false, .bool false] 87)).heap.size = w.heap.size + 1 + 1 + 1) := by unfold Hid; simp
 have HT0 : Hid ((((w.alloc (.cells #[.slice am main.len cm, .slice a defs.length c] 25)).alloc (.cells #[.int .i64 0] 37)).alloc (.cells #[.slice a defs.length c, .int .i64 0, .int .i64 0, .bool false, .bool false] 87)).heap[w.heap.size]? = some (.cells #[.slice am main.len cm, .slice a defs.length c] 25 (0, 0))) := (Below.heap_alloc _ _ _ (by simp; omega)).trans ((Below.heap_alloc _ _ _ (by simp)).trans (heap_alloc_new w _))
 have HE0 : Hid ((((w.alloc (.cells #[.slice am main.len cm, .slice a defs.length c] 25)).alloc (.cells #[.int .i64 0] 37)).alloc (.cells #[.slice a defs.length c, .int .i64 0, .int .i64 0, .bool false, .bool false] 87)).heap[w.heap.size + 1]? = some (.cells #[.int .i64 0] 37 (0, 0))) := by
  have := heap_alloc_new (w.alloc (.cells #[.slice am main.len cm, .slice a defs.length c] 25)) (.cells #[.int .i64 0] 37)
  rw [show (w.alloc (.cells #[.slice am main.len cm, .slice a defs.length c] 25)).heap.size = w.heap.size + 1 by simp] at this
  exact (Below.heap_alloc _ _ _ (by simp)).trans this
 have HL0 : Hid (Lk (w.heap.size + 1 + 1) (.slice a defs.length c) 0 0 false false (((w.alloc (.cells #[.slice am main.len cm, .slice a defs.length c] 25)).alloc (.cells #[.int .i64 0] 37)).alloc (.cells #[.slice a defs.length c, .int .i64 0, .int .i64 0, .bool false, .bool false] 87))) := by
  have := heap_alloc_new ((w.alloc (.cells #[.slice am main.len cm, .slice a defs.length c] 25)).alloc (.cells #[.int .i64 0] 37)) (.cells #[.slice a defs.length c, .int .i64 0, .int .i64 0, .bool false, .bool false] 87)
  rw [show ((w.alloc (.cells #[.slice am main.len cm, .slice a defs.length c] 25)).alloc (.cells #[.int .i64 0] 37)).heap.size = w.heap.size + 1 + 1 by simp] at this
  exact this
 go_enter_defers Tryz.func22, Tryz.ntmps22
 go_wp2_with fail
 generalize hW0 : (((w.alloc (.cells #[.slice am main.len cm, .slice a defs.length c] 25)).alloc (.cells #[.int .i64 0] 37)).alloc (.cells #[.slice a defs.length c, .int .i64 0, .int .i64 0, .bool false, .bool false] 87)) = W0 at *
 generalize hX : w.heap.size + 1 + 1 = X at *
 clear hW0
 have C1 := Lib.hid (PK.out (main.cnt + 1) main (Nat.lt_succ_self _) 0 true (.slice am main.len cm) 0 0 false false W0 z1 (by omega) (by omega) (by omega) (GW.out _ HB0.out) (HDF.out _ HB0.out) (HPM.out _ HB0.out) HL0.out)
 refine C1.out.mono ?_
 rintro e w2 ⟨hg2, h2⟩
 have HG2 := Lib.hid hg2
 clear hg2 C1
 rcases h2 with ⟨hF, rfl, hL⟩ | ⟨hF, rfl⟩
 rotate_left
 · have HF := Lib.hid hF
   clear hF
   go_wp2_with fail
   exact ck_out hX HB0.out HG2.out (by have := HS0.out; omega) rfl rfl ((HG2.out.block _ (by have := HS0.out; omega) (fun e => by injection e; omega)).trans HE0.out) (check_bad1 _ HF.out)
 have HF := Lib.hid hF
 have HL2 : Hid (Lk X (.slice a defs.length c) (main.cnt : Nat) (main.deep : Nat) false (!main.called defs) w2) := by
  unfold Hid
  have := hL
  simpa using this
 clear hF hL
 have hs2 : X + 1 ≤ w2.heap.size := by have := HG2.out.size; have := HS0.out; omega
 have x1 : w2.cell? ⟨w.heap.size, 1, none⟩ = some (.slice a defs.length c) := by rw [cell_of_heap' ((HG2.out.block _ (by have := HS0.out; omega) (fun e => by injection e; omega)).trans HT0.out)]; rfl
 have x1' : (w2.alloc (.map #[] 0)).cell? ⟨w.heap.size, 1, none⟩ = some (.slice a defs.length c) := by rw [cell_of_heap' ((Below.heap_alloc _ _ _ (by omega)).trans ((HG2.out.block _ (by have := HS0.out; omega) (fun e => by injection e; omega)).trans HT0.out))]; rfl
 go_wp2_with fail
 have HM1 : Hid (MapS w2.heap.size 0 [] (w2.alloc (.map #[] 0))) := MapS.made w2
 have HG1 : Hid (Gr X W0 (w2.alloc (.map #[] 0))) := HG2.out.trans (Gr.alloc _ _)
 have HL1 : Hid (Lk X (.slice a defs.length c) (main.cnt : Nat) (main.deep : Nat) false (!main.called defs) (w2.alloc (.map #[] 0))) := HL2.out.below ((Below.refl _ w2).alloc (Nat.le_refl _) _)
 clear x1 x1'
 have hMZ : W0.heap.size ≤ w2.heap.size := HG2.out.size
 generalize hW1 : World.alloc w2 _ = W1 at *
 generalize hM : w2.heap.size = M at *
 clear hW1 hM HG2 HL2
 have hdm := deep_le_cnt main
 have HMZ : Hid (W0.heap.size ≤ M) := hMZ
 clear hMZ
 have hdd := deepD_le defs
 go_loopw [20] (fun i wr => ∃ (k m D : Nat) (N : Bool), i = .int .i64 k ∧ k ≤ defs.length ∧ Hid (Lk X (.slice a defs.length c) m D (twice (nm (defs.take k))) N wr) ∧ Hid (Gr X W0 wr) ∧ Hid (MapS M k (nm (defs.take k)) wr) ∧ Hid (m + cntD (defs.drop k) = main.cnt + cntD defs) ∧
  Hid (max D (deepD (defs.drop k)) = max main.deep (deepD defs)) ∧ Hid ((N || !((defs.drop k).all fun d => d.kids.called defs)) = !(main.called defs && defs.all fun d => d.kids.called defs)) ∧ Hid ((defs.drop k).all okD = defs.all okD)) (fun i _ => defs.length - (intOf i).toNat)
 case atStart =>
  refine ⟨0, main.cnt, main.deep, _, rfl, Nat.zero_le _, HL1, HG1, HM1, rfl, rfl, ?_, rfl⟩
  unfold Hid; rw [List.drop_zero, Bool.not_and]
 case round =>
  obtain ⟨k, m, D, N, rfl, hk, HL, HG, HM, HMM, HDD, HNN, HFF⟩ := hrel
  have HBW : Hid (Below w.heap.size w wr) := HB0.out.trans (HG.out.to_below (by have := HS0.out; omega) (by omega))
  have hsz : X + 1 ≤ wr.heap.size := by have := HG.out.size; have := HS0.out; omega
  have HEB : Hid (wr.heap[w.heap.size + 1]? = some (.cells #[.int .i64 0] 37 (0, 0))) := (HG.out.block _ (by have := HS0.out; omega) (fun e => by injection e; omega)).trans HE0.out
  have hml := HM.out.lt
  have hDle : D ≤ 16777216 := by have := HDD.out; omega
  have hmle : m ≤ 16000000 := by have := HMM.out; omega
  by_cases hlt : k < defs.length
  · have hlt' : (k : Int) < (defs.length : Int) := by omega
    obtain ⟨d, hdk⟩ : ∃ d, defs[k]? = some d := ⟨_, List.getElem?_eq_getElem hlt⟩
    obtain ⟨rfl, hbB, hrow⟩ := HR.out (by intro e; rw [e] at hlt; simp at hlt)
    obtain ⟨g0, g1, v, g2, hpd⟩ := DRow.at _ _ _ _ _ hdk (hrow.kept (Kept.of_below HBW.out) _ _ _ hbB)
    have hdmem : d ∈ defs := List.mem_of_getElem? hdk
    obtain ⟨zn, zk⟩ := HZ2.out d hdmem
    have hcd : d.kids.cnt + m ≤ 16000000 := by have := HMM.out; rw [drop_of _ _ _ hdk, cntD_cons] at this; omega
    have HND := nm_take _ _ _ hdk
    have HNDH := Lib.hid HND
    have HMEM := Lib.hid hdmem
    have HDK := Lib.hid (drop_of _ _ _ hdk)
    obtain ⟨ad, cd, rfl, d1, d2, -⟩ := id hpd
    have HPD5 : Hid (∀ W, Below w.heap.size w W → Parts (· < w.heap.size) W (.slice ad d.kids.len cd) d.kids) := fun W hW => by
     obtain ⟨-, -, v', g2', hpd'⟩ := DRow.at _ _ _ _ _ hdk (hrow.kept (Kept.of_below hW) _ _ _ hbB)
     have e1 := (hW.cell (p := ⟨b, o + k * 3 + 2, none⟩) hbB)
     have e2 := (HBW.out.cell (p := ⟨b, o + k * 3 + 2, none⟩) hbB)
     rw [e1, ← e2, g2] at g2'
     injection g2' with e
     rw [e]; exact hpd'
    have HZK := Lib.hid zk
    have HS1 : Hid (Gr X wr (wr.alloc (.cells #[.string d.name, .int .i64 d.pos, .slice ad d.kids.len cd] 70))) := Gr.alloc wr _
    have HD1 : Hid ((wr.alloc (.cells #[.string d.name, .int .i64 d.pos, .slice ad d.kids.len cd] 70)).heap[wr.heap.size]? = some (.cells #[.string d.name, .int .i64 d.pos, .slice ad d.kids.len cd] 70 (0, 0))) := heap_alloc_new wr _
    have NC := Lib.hid (fun W => name_calls d.name (by omega) W)
    have hzn : d.name.size ≤ maxLen := by unfold maxLen; omega
    have hk24 : k ≤ 16777216 := by omega
    clear hdk hrow hpd zk hlt hdmem HND
    go_wp2_with fail
    refine (NC.out _).mono ?_
    rintro e w3 ⟨rfl, hb3⟩
    have HG3 : Hid (Gr X wr w3) := HS1.out.trans (Gr.below hb3)
    have HD3 : Hid (w3.heap[wr.heap.size]? = some (.cells #[.string d.name, .int .i64 d.pos, .slice ad d.kids.len cd] 70 (0, 0))) := (hb3.block _ (by simp)).trans HD1.out
    have HB3 : Hid (Below wr.heap.size wr w3) := ((Below.refl wr.heap.size wr).alloc (Nat.le_refl _) _).trans (hb3.mono (by simp))
    clear hb3 g0 g1 g2 NC HS1 HD1
    have HE3 : Hid (w3.heap[w.heap.size + 1]? = some (.cells #[.int .i64 0] 37 (0, 0))) := (HB3.out.block _ (by omega)).trans HEB.out
    have e0 : w3.cell? ⟨w.heap.size + 1, 0, none⟩ = some (.int .i64 0) := by rw [cell_of_heap' HE3.out]; rfl
    have ef := frozen_cells HE3.out
    have hE3l := lt_of_block HE3.out
    cases hno : nameOk (bl d.name) with
    | false =>
      have HNO := Lib.hid hno
      clear hno
      go_wp2_with fail
      refine check_return rfl rfl (set_cells HE3.out _) ⟨?_, ?_⟩
      · rw [check_bad2 ⟨main, defs⟩ d HMEM.out (by unfold okD; rw [HNO.out]; rfl)]; rfl
      · exact (HBW.out.trans (HB3.out.mono (by omega))).setCell (p := ⟨w.heap.size + 1, 0, none⟩) (by show w.heap.size ≤ w.heap.size + 1; omega) _
    | true =>
      have HNO := Lib.hid hno
      clear hno e0 ef
      obtain ⟨cc, hlk, hc0, hck, hciff, w4, hup, hm4, hgr4, hlk4⟩ := (HM.out.gr HG3.out (by omega)).store hk24 d.name hzn
      rw [← HNDH.out] at hm4
      have HM4 := Lib.hid hm4
      have HGR4 := Lib.hid hgr4
      have hw34 := hgr4.size
      have HD4 : Hid (w4.heap[wr.heap.size]? = some (.cells #[.string d.name, .int .i64 d.pos, .slice ad d.kids.len cd] 70 (0, 0))) := (hgr4.block _ (lt_of_block HD3.out) (fun e => by injection e; omega)).trans HD3.out
      have HL3 : Hid (Lk X (.slice (some ⟨b, o, none⟩) defs.length c) m D (twice (nm (defs.take k))) N w3) := HL.out.kept (HB3.out.block _ (by omega))
      have HL4 : Hid (Lk X (.slice (some ⟨b, o, none⟩) defs.length c) m D (twice (nm (defs.take k))) N w4) := HL3.out.kept (hgr4.block _ (by have := HB3.out.size; omega) (fun e => by injection e; omega))
      have HG4 : Hid (Gr X W0 w4) := (HG.out.trans HG3.out).row hgr4 HMZ.out
      have q3 : w3.cell? ⟨wr.heap.size, 0, none⟩ = some (.string d.name) := by rw [cell_of_heap' HD3.out]; rfl
      have q4 : w4.cell? ⟨wr.heap.size, 0, none⟩ = some (.string d.name) := by rw [cell_of_heap' HD4.out]; rfl
      have q42 : w4.cell? ⟨wr.heap.size, 2, none⟩ = some (.slice ad d.kids.len cd) := by rw [cell_of_heap' HD4.out]; rfl
      clear hm4 hgr4
      obtain ⟨lc0, lc1, lc2, lc3, lc4, lfz⟩ := HL4.out.cs
      have hdbx : wr.heap.size ≠ X := by omega
      cases htw : twice (nm (defs.take k)) with
      | true =>
        rw [htw] at lc3
        have HTW : Hid (twice (nm (defs.take (k + 1))) = true) := by unfold Hid; rw [HNDH.out, twice_snocK, htw]; rfl
        clear htw hciff
        go_upto_region 12 with (fail)
        have HL5 := Lib.hid (HL4.out.set3 true)
        have HG5 := Lib.hid (HG4.out.trans (Gr.set (bx := X) w4 3 (.bool true)))
        have HM5 := Lib.hid (HM4.out.gr (Gr.set (bx := X) w4 3 (.bool true)) (by omega))
        have q52 : (w4.setCell ⟨X, 3, none⟩ (.bool true)).cell? ⟨wr.heap.size, 2, none⟩ = some (.slice ad d.kids.len cd) := by rw [cell_of_heap' ((Below.heap_setCell _ _ _ _ (fun e => hdbx e)).trans HD4.out)]; rfl
        clear lc0 lc1 lc2 lc3 lc4 lfz q3 q4 q42 hlk hup hlk4 HL4 HL3
        generalize hW5 : World.setCell w4 ⟨X, 3, none⟩ _ = W5 at *
        clear hW5
        have HB5 : Hid (Below w.heap.size w W5) := HB0.out.trans (HG5.out.to_below (by have := HS0.out; omega) (by omega))
        have C5 := Lib.hid (PK.out (d.kids.cnt + 1) d.kids (Nat.lt_succ_self _) 1 false (.slice ad d.kids.len cd) m D true N W5 HZK.out (by omega) (by omega) hDle (GW.out _ HB5.out) (HDF.out _ HB5.out) (HPD5.out _ HB5.out) HL5.out)
        go_wp2_with fail
        refine C5.out.mono ?_
        rintro e w6 ⟨hg6, h6⟩
        have HG6 := Lib.hid hg6
        clear hg6 C5
        rcases h6 with ⟨hF, rfl, hL⟩ | ⟨hF, rfl⟩
        rotate_left
        · have HF6 := Lib.hid hF
          clear hF
          go_wp2_with fail
          exact ck_out hX HB0.out (HG5.out.trans HG6.out) (by have := HS0.out; omega) rfl rfl (((HG5.out.trans HG6.out).block _ (by have := HS0.out; omega) (fun e => by injection e; omega)).trans HE0.out) (check_bad2 _ d HMEM.out (by unfold okD; rw [HF6.out]; simp))
        have HF6 := Lib.hid hF
        have HL6 := Lib.hid hL
        clear hF hL
        go_wp2_with fail
        go_roundw
        case rel =>
         refine ⟨k + 1, m + d.kids.cnt, max D (1 + d.kids.deep), (N || !d.kids.called defs), by go_num, by omega, ?_, HG5.out.trans HG6.out, HM5.out.gr HG6.out (by omega), ?_, ?_, ?_, ?_⟩
         · rw [HTW.out]; exact HL6.out
         · unfold Hid; have := HMM.out; rw [HDK.out, cntD_cons] at this; omega
         · unfold Hid; have := HDD.out; rw [HDK.out, deepD_cons] at this; omega
         · unfold Hid; have := HNN.out; rw [HDK.out, List.all_cons] at this; rw [← this, Bool.not_and, Bool.or_assoc]
         · unfold Hid; have := HFF.out; rw [HDK.out, List.all_cons] at this; rw [← this]; unfold okD; rw [HNO.out, HF6.out]; rfl
        case measure => simp [intOf]; omega
      | false =>
        rw [htw] at lc3
        by_cases hcon : (nm (defs.take k)).contains (bl d.name) = true
        · have HTW : Hid (twice (nm (defs.take (k + 1))) = true) := by unfold Hid; rw [HNDH.out, twice_snocK, htw, hcon]; rfl
          have hgt : (1 : Int) < cc + 1 := by have := hciff.2 hcon; omega
          clear htw hciff hcon
          go_upto_region 12 with (fail)
          have HL5 := Lib.hid (HL4.out.set3 true)
          have HG5 := Lib.hid (HG4.out.trans (Gr.set (bx := X) w4 3 (.bool true)))
          have HM5 := Lib.hid (HM4.out.gr (Gr.set (bx := X) w4 3 (.bool true)) (by omega))
          have q52 : (w4.setCell ⟨X, 3, none⟩ (.bool true)).cell? ⟨wr.heap.size, 2, none⟩ = some (.slice ad d.kids.len cd) := by rw [cell_of_heap' ((Below.heap_setCell _ _ _ _ (fun e => hdbx e)).trans HD4.out)]; rfl
          clear lc0 lc1 lc2 lc3 lc4 lfz q3 q4 q42 hlk hup hlk4 HL4 HL3
          generalize hW5 : World.setCell w4 ⟨X, 3, none⟩ _ = W5 at *
          clear hW5
          have HB5 : Hid (Below w.heap.size w W5) := HB0.out.trans (HG5.out.to_below (by have := HS0.out; omega) (by omega))
          have C5 := Lib.hid (PK.out (d.kids.cnt + 1) d.kids (Nat.lt_succ_self _) 1 false (.slice ad d.kids.len cd) m D true N W5 HZK.out (by omega) (by omega) hDle (GW.out _ HB5.out) (HDF.out _ HB5.out) (HPD5.out _ HB5.out) HL5.out)
          go_wp2_with fail
          refine C5.out.mono ?_
          rintro e w6 ⟨hg6, h6⟩
          have HG6 := Lib.hid hg6
          clear hg6 C5
          rcases h6 with ⟨hF, rfl, hL⟩ | ⟨hF, rfl⟩
          rotate_left
          · have HF6 := Lib.hid hF
            clear hF
            go_wp2_with fail
            exact ck_out hX HB0.out (HG5.out.trans HG6.out) (by have := HS0.out; omega) rfl rfl (((HG5.out.trans HG6.out).block _ (by have := HS0.out; omega) (fun e => by injection e; omega)).trans HE0.out) (check_bad2 _ d HMEM.out (by unfold okD; rw [HF6.out]; simp))
          have HF6 := Lib.hid hF
          have HL6 := Lib.hid hL
          clear hF hL
          go_wp2_with fail
          go_roundw
          case rel =>
           refine ⟨k + 1, m + d.kids.cnt, max D (1 + d.kids.deep), (N || !d.kids.called defs), by go_num, by omega, ?_, HG5.out.trans HG6.out, HM5.out.gr HG6.out (by omega), ?_, ?_, ?_, ?_⟩
           · rw [HTW.out]; exact HL6.out
           · unfold Hid; have := HMM.out; rw [HDK.out, cntD_cons] at this; omega
           · unfold Hid; have := HDD.out; rw [HDK.out, deepD_cons] at this; omega
           · unfold Hid; have := HNN.out; rw [HDK.out, List.all_cons] at this; rw [← this, Bool.not_and, Bool.or_assoc]
           · unfold Hid; have := HFF.out; rw [HDK.out, List.all_cons] at this; rw [← this]; unfold okD; rw [HNO.out, HF6.out]; rfl
          case measure => simp [intOf]; omega
        · have HTW : Hid (twice (nm (defs.take (k + 1))) = false) := by unfold Hid; rw [HNDH.out, twice_snocK, htw]; simpa using hcon
          have hgt : ¬ (1 : Int) < cc + 1 := by intro e; exact hcon (hciff.1 (by omega))
          have hgd : decide ((1 : Int) < cc + 1) = false := decide_eq_false hgt
          clear htw hciff hcon
          go_upto_region 12 with (fail)
          have HL5 := Lib.hid (HL4.out.set3 false)
          have HG5 := Lib.hid (HG4.out.trans (Gr.set (bx := X) w4 3 (.bool false)))
          have HM5 := Lib.hid (HM4.out.gr (Gr.set (bx := X) w4 3 (.bool false)) (by omega))
          have q52 : (w4.setCell ⟨X, 3, none⟩ (.bool false)).cell? ⟨wr.heap.size, 2, none⟩ = some (.slice ad d.kids.len cd) := by rw [cell_of_heap' ((Below.heap_setCell _ _ _ _ (fun e => hdbx e)).trans HD4.out)]; rfl
          clear lc0 lc1 lc2 lc3 lc4 lfz q3 q4 q42 hlk hup hlk4 HL4 HL3
          generalize hW5 : World.setCell w4 ⟨X, 3, none⟩ _ = W5 at *
          clear hW5
          have HB5 : Hid (Below w.heap.size w W5) := HB0.out.trans (HG5.out.to_below (by have := HS0.out; omega) (by omega))
          have C5 := Lib.hid (PK.out (d.kids.cnt + 1) d.kids (Nat.lt_succ_self _) 1 false (.slice ad d.kids.len cd) m D false N W5 HZK.out (by omega) (by omega) hDle (GW.out _ HB5.out) (HDF.out _ HB5.out) (HPD5.out _ HB5.out) HL5.out)
          go_wp2_with fail
          refine C5.out.mono ?_
          rintro e w6 ⟨hg6, h6⟩
          have HG6 := Lib.hid hg6
          clear hg6 C5
          rcases h6 with ⟨hF, rfl, hL⟩ | ⟨hF, rfl⟩
          rotate_left
          · have HF6 := Lib.hid hF
            clear hF
            go_wp2_with fail
            exact ck_out hX HB0.out (HG5.out.trans HG6.out) (by have := HS0.out; omega) rfl rfl (((HG5.out.trans HG6.out).block _ (by have := HS0.out; omega) (fun e => by injection e; omega)).trans HE0.out) (check_bad2 _ d HMEM.out (by unfold okD; rw [HF6.out]; simp))
          have HF6 := Lib.hid hF
          have HL6 := Lib.hid hL
          clear hF hL
          go_wp2_with fail
          go_roundw
          case rel =>
           refine ⟨k + 1, m + d.kids.cnt, max D (1 + d.kids.deep), (N || !d.kids.called defs), by go_num, by omega, ?_, HG5.out.trans HG6.out, HM5.out.gr HG6.out (by omega), ?_, ?_, ?_, ?_⟩
           · rw [HTW.out]; exact HL6.out
           · unfold Hid; have := HMM.out; rw [HDK.out, cntD_cons] at this; omega
           · unfold Hid; have := HDD.out; rw [HDK.out, deepD_cons] at this; omega
           · unfold Hid; have := HNN.out; rw [HDK.out, List.all_cons] at this; rw [← this, Bool.not_and, Bool.or_assoc]
           · unfold Hid; have := HFF.out; rw [HDK.out, List.all_cons] at this; rw [← this]; unfold okD; rw [HNO.out, HF6.out]; rfl
          case measure => simp [intOf]; omega
  · have hge : ¬ (k : Int) < (defs.length : Int) := by omega
    have hdrop : defs.drop k = [] := List.drop_of_length_le (by omega)
    have htake : defs.take k = defs := List.take_of_length_le (by omega)
    have hm : m = main.cnt + cntD defs := by have := HMM.out; rw [hdrop] at this; simpa [cntD] using this
    have hD : D = max main.deep (deepD defs) := by have := HDD.out; rw [hdrop] at this; simpa [deepD] using this
    have hN : N = !(main.called defs && defs.all fun d => d.kids.called defs) := by have := HNN.out; rw [hdrop] at this; simpa using this
    have hF2 : defs.all okD = true := by have := HFF.out; rw [hdrop] at this; simpa using this.symm
    have HCK : Hid ((Tm.check ⟨main, defs⟩) = endK m D (twice (nm defs)) N (Tm.src ⟨main, defs⟩).length) := by
     unfold Hid; rw [check_end ⟨main, defs⟩ HF.out hF2, hm, hD, hN]; rfl
    rw [htake] at HL
    clear hdrop htake hm hD hN hF2 HM HMM HDD HNN HFF PK
    obtain ⟨lc0, lc1, lc2, lc3, lc4, lfz⟩ := HL.out.cs
    have e0 : wr.cell? ⟨w.heap.size + 1, 0, none⟩ = some (.int .i64 0) := by rw [cell_of_heap' HEB.out]; rfl
    have ef := frozen_cells HEB.out
    have hEl := lt_of_block HEB.out
    have HTB : Hid (wr.heap[w.heap.size]? = some (.cells #[.slice am main.len cm, .slice a defs.length c] 25 (0, 0))) := (HG.out.block _ (by have := HS0.out; omega) (fun e => by injection e; omega)).trans HT0.out
    have t0 : wr.cell? ⟨w.heap.size, 0, none⟩ = some (.slice am main.len cm) := by rw [cell_of_heap' HTB.out]; rfl
    have t1 : wr.cell? ⟨w.heap.size, 1, none⟩ = some (.slice a defs.length c) := by rw [cell_of_heap' HTB.out]; rfl
    have FIN : Hid (∀ (v : Nat) (W : World), Below w.heap.size w W → endK m D (twice (nm defs)) N (Tm.src ⟨main, defs⟩).length = v → CheckR ⟨main, defs⟩ w (.returned (.int .i64 (v : Nat))) (W.setCell ⟨w.heap.size + 1, 0, none⟩ (.int .i64 (v : Nat)))) := fun v W hW hv => ⟨by rw [HCK.out, hv], hW.setCell (p := ⟨w.heap.size + 1, 0, none⟩) (by show w.heap.size ≤ w.heap.size + 1; omega) _⟩
    by_cases hq1 : 64 < D
    · have f1 : (64 : Int) < (D : Int) := by omega
      have HQ := Lib.hid hq1
      clear hq1
      go_wp2_with fail
      exact check_return rfl rfl (set_cells HEB.out _) (FIN.out 193 _ HBW.out (by unfold endK; rw [if_pos HQ.out]))
    have f1 : ¬ (64 : Int) < (D : Int) := by omega
    have HQ1 := Lib.hid hq1
    clear hq1
    cases htw : twice (nm defs) with
    | true =>
      rw [htw] at lc3
      have HQ := Lib.hid htw
      clear htw
      go_wp2_with fail
      exact check_return rfl rfl (set_cells HEB.out _) (FIN.out 194 _ HBW.out (by unfold endK; rw [if_neg HQ1.out, if_pos HQ.out]))
    | false =>
      rw [htw] at lc3
      have HQ2 := Lib.hid htw
      clear htw
      cases N with
      | true =>
        go_wp2_with fail
        exact check_return rfl rfl (set_cells HEB.out _) (FIN.out 195 _ HBW.out (by unfold endK; rw [if_neg HQ1.out, if_neg (by rw [HQ2.out]; decide), if_pos rfl]))
      | false =>
        by_cases hq4 : 1024 < m
        · have f4 : (1024 : Int) < (m : Int) := by omega
          have HQ := Lib.hid hq4
          clear hq4
          go_wp2_with fail
          exact check_return rfl rfl (set_cells HEB.out _) (FIN.out 196 _ HBW.out (by unfold endK; rw [if_neg HQ1.out, if_neg (by rw [HQ2.out]; decide), if_neg (by decide), if_pos (.inl HQ.out)]))
        · have f4 : ¬ (1024 : Int) < (m : Int) := by omega
          have HQ4 := Lib.hid hq4
          clear hq4
          go_wp2_with fail
          refine (SC.out _ HBW.out).mono ?_
          rintro e w7 ⟨rfl, hb7⟩
          have HE7 := Lib.hid ((hb7.block _ hEl).trans HEB.out)
          have HB7 : Hid (Below w.heap.size w w7) := HBW.out.trans (hb7.mono (by omega))
          clear hb7 e0 ef t0 t1 lc0 lc1 lc2 lc3 lc4 lfz
          have e0 : w7.cell? ⟨w.heap.size + 1, 0, none⟩ = some (.int .i64 0) := by rw [cell_of_heap' HE7.out]; rfl
          have ef := frozen_cells HE7.out
          have hEl7 := lt_of_block HE7.out
          by_cases hq5 : 16384 < (Tm.src ⟨main, defs⟩).length
          · have f5 : (16384 : Int) < ((mkB (Tm.src ⟨main, defs⟩)).size : Int) := by omega
            have HQ := Lib.hid hq5
            clear hq5 hmk
            go_wp2_with fail
            exact check_return rfl rfl (set_cells HE7.out _) (FIN.out 196 _ HB7.out (by unfold endK; rw [if_neg HQ1.out, if_neg (by rw [HQ2.out]; decide), if_neg (by decide), if_pos (.inr HQ.out)]))
          · have f5 : ¬ (16384 : Int) < ((mkB (Tm.src ⟨main, defs⟩)).size : Int) := by omega
            have HQ := Lib.hid hq5
            clear hq5 hmk
            go_wp2_with fail
            exact check_return rfl rfl (set_cells HE7.out _) (FIN.out 0 _ HB7.out (by unfold endK; rw [if_neg HQ1.out, if_neg (by rw [HQ2.out]; decide), if_neg (by decide), if_neg (by intro e; exact e.elim HQ4.out HQ.out)]))
end Go.Proofs.YtepcpgdfbaklfaaGreatDoor
