/-
  errors.As by its contracts at the errors of tmpl.Parse; the contract of tmpl.Wrong there, and at no error. The condition: errors.errorType holds the handle of the type error.
-/
import Derived.Test.YtdgcdjpjnhlihaaGreatDoorTasM
import Derived.Test.YtdgcdjpjnhlihaaGreatDoorMgTac2
set_option linter.unusedVariables false
namespace Go.Proofs.YtdgcdjpjnhlihaaGreatDoor
open Go.RowKit Go.Extern.Stop Go.Stop Go.Extern

theorem as_assertAs (v : Value) (w : World) : (Instr.typeAssert (.iface 48 v) 36 157 true).run Tryz.prog w = .ok (.tuple #[.nilIface, .bool false]) w := run_typeAssert_lacksB Tryz.underlying157 (by kernel_rfl) (by kernel_rfl) v _ w
theorem as_assertUn (v : Value) (w : World) : (Instr.typeAssert (.iface 48 v) 36 160 true).run Tryz.prog w = .ok (.tuple #[.iface 48 v, .bool true]) w := run_typeAssert_hasB Tryz.underlying160 (by kernel_rfl) v _ w
theorem unwrap_calls (bf : Nat) (n p : Nat) (w : World) (hf : w.heap[bf]? = some (failO n p)) :
    Calls Tryz.prog 168 #[.pointer (some ⟨bf, 0, none⟩)] w fun e w' => e = .returned (.iface 29 (.int .i64 (n : Nat))) ∧ w' = w := by
  have c2 : w.cell? ⟨bf, 2, none⟩ = some (.iface 29 (.int .i64 (n : Nat))) := by rw [cell_of_heap' hf]; rfl
  clear hf
  go_enter Tryz.func168, Tryz.ntmps168
  go_wp2_with fail
  go_ret
  exact ⟨rfl, rfl⟩
def valT (T b : Nat) (f : Int) : Array Value := #[.pointer (some ⟨4, T, none⟩), .pointer (some ⟨b, 0, none⟩), .int .u64 f]
set_option maxRecDepth 100000 in
set_option maxHeartbeats 8000000 in
theorem as_hitF (e t : Addr) (old : Value) (w : World) (hg : Eg w) (ht0 : w.cell? t = some old) (hf0 : w.frozen? t = false) :
    Calls Tryz.prog 20 #[.iface 48 (.pointer (some e)), .iface 50 (.pointer (some t))] w fun ev w' => ev = .returned (.bool true) ∧ w' = ((((w.alloc (.cells #[.pointer (some t)] 50)).alloc (.cells (valT 50 w.heap.size 150) 103)).alloc (.cells (valT 50 w.heap.size 150) 103)).alloc (.cells #[.pointer (some e)] 48)).setCell t (.pointer (some e)) := by
  unfold valT Eg at *
  have h6 := @run_callFunc_extern Tryz.prog 47 _ (fun args => ReflectliteValue.unpack (args.getD 0 (.tuple #[]))) Tryz.func47 (by kernel_rfl) (by kernel_rfl) (by kernel_rfl) (by kernel_rfl)
  have h7 := @run_callFunc_extern Tryz.prog 48 _ (ReflectliteValue.methodAny (ReflectliteValue.valueError "reflectlite.Value.Type" 0) (fun t _ _ _ => ReflectliteType.toType t)) Tryz.func48 (by kernel_rfl) (by kernel_rfl) (by kernel_rfl) (by kernel_rfl)
  have h8 := @run_callFunc_extern Tryz.prog 49 _ (ReflectliteValue.method (ReflectliteValue.valueError "reflectlite.Value.IsNil" 0) ReflectliteValue.isNil) Tryz.func49 (by kernel_rfl) (by kernel_rfl) (by kernel_rfl) (by kernel_rfl)
  have h27 := @run_callFunc_extern Tryz.prog 163 _ (ReflectliteType.abiMethod fun t => do pure (.int .u8 (← Rtype.kind t))) Tryz.func163 (by kernel_rfl) (by kernel_rfl) (by kernel_rfl) (by kernel_rfl)
  have h37 := @run_callFunc_extern Tryz.prog 176 _ (ReflectliteType.method ReflectliteType.elem) Tryz.func176 (by kernel_rfl) (by kernel_rfl) (by kernel_rfl) (by kernel_rfl)
  have h38 := @run_callFunc_extern Tryz.prog 177 _ (ReflectliteType.relation "Implements" ReflectliteType.implements_) Tryz.func177 (by kernel_rfl) (by kernel_rfl) (by kernel_rfl) (by kernel_rfl)
  have h10 := @run_callFunc_extern Tryz.prog 51 _ ReflectliteType.typeOf Tryz.func51 (by kernel_rfl) (by kernel_rfl) (by kernel_rfl) (by kernel_rfl)
  have h35 := @run_callFunc_extern Tryz.prog 174 _ (ReflectliteType.relation "AssignableTo" ReflectliteType.assignableTo) Tryz.func174 (by kernel_rfl) (by kernel_rfl) (by kernel_rfl) (by kernel_rfl)
  have h11 := @run_callFunc_extern Tryz.prog 91 _ (ReflectliteValue.method (ReflectliteValue.valueError "reflectlite.Value.Elem" 0) ReflectliteValue.elem) Tryz.func91 (by kernel_rfl) (by kernel_rfl) (by kernel_rfl) (by kernel_rfl)
  have h12 := @run_callFunc_extern Tryz.prog 92 _ ReflectliteValue.set Tryz.func92 (by kernel_rfl) (by kernel_rfl) (by kernel_rfl) (by kernel_rfl)
  have tO := as_typeOfF
  have mA := as_methodAssignableTo
  have a25 := as_assignF
  have v25 := as_valF
  have f6 := as_valueOfF
  have f7 := as_typeF
  have mK := as_methodKind
  have mE := as_methodElem
  have mI := as_methodImplements
  have k27 := as_kindF
  have k25 := as_kindFe
  have e27 := as_elemF
  have i25 := as_implementsF
  have n8 := as_isNilF ⟨w.heap.size, 0, none⟩ t ((w.alloc (.cells #[.pointer (some t)] 50)).alloc (.cells #[.pointer (some ⟨4, 50, none⟩), .pointer (some ⟨w.heap.size, 0, none⟩), .int .u64 150] 103)) (by simp)
  have hlt : 0 < w.heap.size := lt_of_cell hg
  have hg2 : ((w.alloc (.cells #[.pointer (some t)] 50)).alloc (.cells #[.pointer (some ⟨4, 50, none⟩), .pointer (some ⟨w.heap.size, 0, none⟩), .int .u64 150] 103)).cell? ⟨0, 0, none⟩ = some (.iface 153 (.agg #[.pointer (some ⟨4, 36, none⟩)])) := by
    rw [World.cell?_alloc_lt _ _ ⟨0, 0, none⟩ (by simp), World.cell?_alloc_lt _ _ ⟨0, 0, none⟩ hlt]; exact hg
  have htl : t.block < w.heap.size := lt_of_cell ht0
  have el := as_elemVF ⟨w.heap.size, 0, none⟩ t (((w.alloc (.cells #[.pointer (some t)] 50)).alloc (.cells #[.pointer (some ⟨4, 50, none⟩), .pointer (some ⟨w.heap.size, 0, none⟩), .int .u64 150] 103)).alloc (.cells #[.pointer (some ⟨4, 50, none⟩), .pointer (some ⟨w.heap.size, 0, none⟩), .int .u64 150] 103)) (by rw [World.cell?_alloc_lt _ _ ⟨w.heap.size, 0, none⟩ (by simp; omega)]; simp)
  have st := as_setF t ⟨w.heap.size + 1 + 1 + 1, 0, none⟩ e old ((((w.alloc (.cells #[.pointer (some t)] 50)).alloc (.cells #[.pointer (some ⟨4, 50, none⟩), .pointer (some ⟨w.heap.size, 0, none⟩), .int .u64 150] 103)).alloc (.cells #[.pointer (some ⟨4, 50, none⟩), .pointer (some ⟨w.heap.size, 0, none⟩), .int .u64 150] 103)).alloc (.cells #[.pointer (some e)] 48))
    (by rw [World.cell?_alloc_at _ _ _ _ (by simp)]; rfl)
    (by rw [World.cell?_alloc_lt _ _ t (by simp; omega), World.cell?_alloc_lt _ _ t (by simp; omega), World.cell?_alloc_lt _ _ t (by simp; omega), World.cell?_alloc_lt _ _ t htl]; exact ht0)
    (by rw [World.frozen?_alloc_old _ _ t (by simp; omega), World.frozen?_alloc_old _ _ t (by simp; omega), World.frozen?_alloc_old _ _ t (by simp; omega), World.frozen?_alloc_old _ _ t (Nat.ne_of_lt htl)]; exact hf0)
  go_enter Tryz.func20, Tryz.ntmps20
  go_wp2
  refine wp_loop_rounds 1 ?_
  rw [rounds_succ]
  go_wp2
  go_ret
  exact ⟨rfl, rfl⟩
set_option maxRecDepth 100000 in
set_option maxHeartbeats 8000000 in
theorem as_hitE (bf n p : Nat) (t : Addr) (old : Value) (w : World) (hbf : w.heap[bf]? = some (failO n p)) (hg : Eg w) (ht0 : w.cell? t = some old) (hf0 : w.frozen? t = false) :
    Calls Tryz.prog 20 #[.iface 48 (.pointer (some ⟨bf, 0, none⟩)), .iface 88 (.pointer (some t))] w fun ev w' => ev = .returned (.bool true) ∧ w' = ((((w.alloc (.cells #[.pointer (some t)] 88)).alloc (.cells (valT 88 w.heap.size 150) 103)).alloc (.cells (valT 88 w.heap.size 150) 103)).alloc (.cells #[.int .i64 (n : Nat)] 29)).setCell t (.int .i64 (n : Nat)) := by
  unfold valT Eg at *
  have h6 := @run_callFunc_extern Tryz.prog 47 _ (fun args => ReflectliteValue.unpack (args.getD 0 (.tuple #[]))) Tryz.func47 (by kernel_rfl) (by kernel_rfl) (by kernel_rfl) (by kernel_rfl)
  have h7 := @run_callFunc_extern Tryz.prog 48 _ (ReflectliteValue.methodAny (ReflectliteValue.valueError "reflectlite.Value.Type" 0) (fun t _ _ _ => ReflectliteType.toType t)) Tryz.func48 (by kernel_rfl) (by kernel_rfl) (by kernel_rfl) (by kernel_rfl)
  have h8 := @run_callFunc_extern Tryz.prog 49 _ (ReflectliteValue.method (ReflectliteValue.valueError "reflectlite.Value.IsNil" 0) ReflectliteValue.isNil) Tryz.func49 (by kernel_rfl) (by kernel_rfl) (by kernel_rfl) (by kernel_rfl)
  have h27 := @run_callFunc_extern Tryz.prog 163 _ (ReflectliteType.abiMethod fun t => do pure (.int .u8 (← Rtype.kind t))) Tryz.func163 (by kernel_rfl) (by kernel_rfl) (by kernel_rfl) (by kernel_rfl)
  have h37 := @run_callFunc_extern Tryz.prog 176 _ (ReflectliteType.method ReflectliteType.elem) Tryz.func176 (by kernel_rfl) (by kernel_rfl) (by kernel_rfl) (by kernel_rfl)
  have h38 := @run_callFunc_extern Tryz.prog 177 _ (ReflectliteType.relation "Implements" ReflectliteType.implements_) Tryz.func177 (by kernel_rfl) (by kernel_rfl) (by kernel_rfl) (by kernel_rfl)
  have h10 := @run_callFunc_extern Tryz.prog 51 _ ReflectliteType.typeOf Tryz.func51 (by kernel_rfl) (by kernel_rfl) (by kernel_rfl) (by kernel_rfl)
  have h35 := @run_callFunc_extern Tryz.prog 174 _ (ReflectliteType.relation "AssignableTo" ReflectliteType.assignableTo) Tryz.func174 (by kernel_rfl) (by kernel_rfl) (by kernel_rfl) (by kernel_rfl)
  have h11 := @run_callFunc_extern Tryz.prog 91 _ (ReflectliteValue.method (ReflectliteValue.valueError "reflectlite.Value.Elem" 0) ReflectliteValue.elem) Tryz.func91 (by kernel_rfl) (by kernel_rfl) (by kernel_rfl) (by kernel_rfl)
  have h12 := @run_callFunc_extern Tryz.prog 92 _ ReflectliteValue.set Tryz.func92 (by kernel_rfl) (by kernel_rfl) (by kernel_rfl) (by kernel_rfl)
  have tO := as_typeOfF
  have tO2 := as_typeOfE
  have mA := as_methodAssignableTo
  have a25 := as_assignFE
  have a29 := as_assignE
  have v25 := as_valE
  have f6 := as_valueOfE
  have f7 := as_typeE
  have mK := as_methodKind
  have mE := as_methodElem
  have mI := as_methodImplements
  have k27 := as_kindE
  have k25 := as_kindEe
  have e27 := as_elemE
  have i25 := as_implementsE
  have n8 := as_isNilE ⟨w.heap.size, 0, none⟩ t ((w.alloc (.cells #[.pointer (some t)] 88)).alloc (.cells #[.pointer (some ⟨4, 88, none⟩), .pointer (some ⟨w.heap.size, 0, none⟩), .int .u64 150] 103)) (by simp)
  have hlt : 0 < w.heap.size := lt_of_cell hg
  have hg2 : ((w.alloc (.cells #[.pointer (some t)] 88)).alloc (.cells #[.pointer (some ⟨4, 88, none⟩), .pointer (some ⟨w.heap.size, 0, none⟩), .int .u64 150] 103)).cell? ⟨0, 0, none⟩ = some (.iface 153 (.agg #[.pointer (some ⟨4, 36, none⟩)])) := by
    rw [World.cell?_alloc_lt _ _ ⟨0, 0, none⟩ (by simp), World.cell?_alloc_lt _ _ ⟨0, 0, none⟩ hlt]; exact hg
  have htl : t.block < w.heap.size := lt_of_cell ht0
  have el := as_elemVE ⟨w.heap.size, 0, none⟩ t (((w.alloc (.cells #[.pointer (some t)] 88)).alloc (.cells #[.pointer (some ⟨4, 88, none⟩), .pointer (some ⟨w.heap.size, 0, none⟩), .int .u64 150] 103)).alloc (.cells #[.pointer (some ⟨4, 88, none⟩), .pointer (some ⟨w.heap.size, 0, none⟩), .int .u64 150] 103)) (by rw [World.cell?_alloc_lt _ _ ⟨w.heap.size, 0, none⟩ (by simp; omega)]; simp)
  have st := as_setE t ⟨w.heap.size + 1 + 1 + 1, 0, none⟩ (n : Nat) old ((((w.alloc (.cells #[.pointer (some t)] 88)).alloc (.cells #[.pointer (some ⟨4, 88, none⟩), .pointer (some ⟨w.heap.size, 0, none⟩), .int .u64 150] 103)).alloc (.cells #[.pointer (some ⟨4, 88, none⟩), .pointer (some ⟨w.heap.size, 0, none⟩), .int .u64 150] 103)).alloc (.cells #[.int .i64 (n : Nat)] 29))
    (by rw [World.cell?_alloc_at _ _ _ _ (by simp)]; rfl)
    (by rw [World.cell?_alloc_lt _ _ t (by simp; omega), World.cell?_alloc_lt _ _ t (by simp; omega), World.cell?_alloc_lt _ _ t (by simp; omega), World.cell?_alloc_lt _ _ t htl]; exact ht0)
    (by rw [World.frozen?_alloc_old _ _ t (by simp; omega), World.frozen?_alloc_old _ _ t (by simp; omega), World.frozen?_alloc_old _ _ t (by simp; omega), World.frozen?_alloc_old _ _ t (Nat.ne_of_lt htl)]; exact hf0)
  have aA := as_assertAs
  have aU := as_assertUn
  have mU := as_methodUnwrap
  have hbl := lt_of_block hbf
  have UC := Lib.hid (unwrap_calls bf n p (((w.alloc (.cells #[.pointer (some t)] 88)).alloc (.cells #[.pointer (some ⟨4, 88, none⟩), .pointer (some ⟨w.heap.size, 0, none⟩), .int .u64 150] 103)).alloc (.cells #[.pointer (some ⟨4, 88, none⟩), .pointer (some ⟨w.heap.size, 0, none⟩), .int .u64 150] 103)) ((Below.heap_alloc _ _ _ (by simp; omega)).trans ((Below.heap_alloc _ _ _ (by simp; omega)).trans ((Below.heap_alloc _ _ _ hbl).trans hbf))))
  clear hbf
  go_enter Tryz.func20, Tryz.ntmps20
  go_wp2
  refine wp_loop_rounds 2 ?_
  rw [rounds_succ]
  go_wp2_with (go_at_call 168; refine UC.out.mono ?_; rintro e w1 ⟨rfl, rfl⟩)
  rw [rounds_succ]
  go_wp2
  go_ret
  exact ⟨rfl, rfl⟩
theorem as_gF (e : Addr) (tb : Nat) (old : Value) (w : World) (hg : Eg w) (ht : w.heap[tb]? = some (.cells #[old] 48 (0, 0))) :
    Calls Tryz.prog 20 #[.iface 48 (.pointer (some e)), .iface 50 (.pointer (some ⟨tb, 0, none⟩))] w fun ev w' => ev = .returned (.bool true) ∧ Gr tb w w' ∧ w'.heap[tb]? = some (.cells #[.pointer (some e)] 48 (0, 0)) := by
  have hl := lt_of_block ht
  refine (as_hitF e ⟨tb, 0, none⟩ old w hg (by rw [cell_of_heap' ht]; rfl) (frozen_cells ht 0)).mono ?_
  rintro ev w' ⟨rfl, rfl⟩
  refine ⟨rfl, (((((Gr.alloc _ _).trans (Gr.alloc _ _)).trans (Gr.alloc _ _)).trans (Gr.alloc _ _)).trans (Gr.set _ _ _)), ?_⟩
  exact set_cells (j := 0) (cs := #[old]) ((Below.heap_alloc _ _ _ (by simp; omega)).trans ((Below.heap_alloc _ _ _ (by simp; omega)).trans ((Below.heap_alloc _ _ _ (by simp; omega)).trans ((Below.heap_alloc _ _ _ hl).trans ht)))) _
theorem as_gE (bf n p tb : Nat) (old : Value) (w : World) (hbf : w.heap[bf]? = some (failO n p)) (hg : Eg w) (ht : w.heap[tb]? = some (.cells #[old] 29 (0, 0))) :
    Calls Tryz.prog 20 #[.iface 48 (.pointer (some ⟨bf, 0, none⟩)), .iface 88 (.pointer (some ⟨tb, 0, none⟩))] w fun ev w' => ev = .returned (.bool true) ∧ Gr tb w w' ∧ w'.heap[tb]? = some (.cells #[.int .i64 (n : Nat)] 29 (0, 0)) := by
  have hl := lt_of_block ht
  refine (as_hitE bf n p ⟨tb, 0, none⟩ old w hbf hg (by rw [cell_of_heap' ht]; rfl) (frozen_cells ht 0)).mono ?_
  rintro ev w' ⟨rfl, rfl⟩
  refine ⟨rfl, (((((Gr.alloc _ _).trans (Gr.alloc _ _)).trans (Gr.alloc _ _)).trans (Gr.alloc _ _)).trans (Gr.set _ _ _)), ?_⟩
  exact set_cells (j := 0) (cs := #[old]) ((Below.heap_alloc _ _ _ (by simp; omega)).trans ((Below.heap_alloc _ _ _ (by simp; omega)).trans ((Below.heap_alloc _ _ _ (by simp; omega)).trans ((Below.heap_alloc _ _ _ hl).trans ht)))) _
set_option maxHeartbeats 4000000 in
theorem wrong_nil (w : World) : Calls Tryz.prog 17 #[.nilIface] w fun e w' => e = .returned (.tuple #[.int .i64 0, .int .i64 0]) ∧ Below w.heap.size w w' := by
  go_enter Tryz.func17, Tryz.ntmps17
  go_wp2_with fail
  go_ret2
  exact ⟨rfl, Below.refl _ _⟩
set_option maxHeartbeats 8000000 in
theorem wrong_calls (bf n p : Nat) (w : World) (hbf : w.heap[bf]? = some (failO n p)) (hg : Eg w) :
    Calls Tryz.prog 17 #[failV bf] w fun e w' => e = .returned (.tuple #[.int .i64 (n : Nat), .int .i64 (p : Nat)]) ∧ Below w.heap.size w w' := by
  have hnil := run_eql_iface_nil (P := Tryz.prog) w (tx := 48) (.pointer (some ⟨bf, 0, none⟩)) Tryz.underlying36
  have hbl := lt_of_block hbf
  have HG0 : Hid (Gr w.heap.size w (w.alloc (.cells #[.pointer none] 48))) := Gr.alloc _ _
  have AF := Lib.hid (as_gF ⟨bf, 0, none⟩ w.heap.size (.pointer none) (w.alloc (.cells #[.pointer none] 48)) (hg.below ((Below.refl _ w).alloc (Nat.le_refl _) _)) (heap_alloc_new w _))
  have HBF := Lib.hid hbf
  have HG := Lib.hid hg
  unfold failV
  clear hbf hg
  go_enter Tryz.func17, Tryz.ntmps17
  go_wp2_with fail
  refine AF.out.mono ?_
  rintro e w1 ⟨rfl, hg1, ht1⟩
  have HG1 := Lib.hid (HG0.out.trans hg1)
  have HT1 := Lib.hid ht1
  have HB1 := Lib.hid (HG1.out.to_below (Nat.le_refl _) (Nat.le_refl _))
  clear hg1 ht1 AF hnil
  have c0 : w1.cell? ⟨w.heap.size, 0, none⟩ = some (.pointer (some ⟨bf, 0, none⟩)) := by rw [cell_of_heap' HT1.out]; rfl
  have HBF1 := Lib.hid ((HB1.out.block _ hbl).trans HBF.out)
  have c1 : w1.cell? ⟨bf, 1, none⟩ = some (.int .i64 (p : Nat)) := by rw [cell_of_heap' HBF1.out]; rfl
  have hl1 := HB1.out.size
  have HG2 : Hid (Gr w1.heap.size w1 (w1.alloc (.cells #[.int .i64 0] 29))) := Gr.alloc _ _
  have AE := Lib.hid (as_gE bf n p w1.heap.size (.int .i64 0) (w1.alloc (.cells #[.int .i64 0] 29)) ((Below.heap_alloc _ _ _ (by omega)).trans HBF1.out) (HG.out.below (HB1.out.trans (((Below.refl _ w1).alloc (Nat.le_refl _) _).mono hl1))) (heap_alloc_new w1 _))
  go_wp2_with fail
  refine AE.out.mono ?_
  rintro e w2 ⟨rfl, hg2, ht2⟩
  have HB2 := Lib.hid (HB1.out.trans (((HG2.out.trans hg2).to_below (Nat.le_refl _) (Nat.le_refl _)).mono hl1))
  have HT2 := Lib.hid ht2
  clear hg2 ht2 AE c0 c1
  have c2 : w2.cell? ⟨w1.heap.size, 0, none⟩ = some (.int .i64 (n : Nat)) := by rw [cell_of_heap' HT2.out]; rfl
  go_wp2_with fail
  go_ret2
  exact ⟨rfl, HB2.out⟩
end Go.Proofs.YtdgcdjpjnhlihaaGreatDoor
