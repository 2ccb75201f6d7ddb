/- lacuna/lacunalaw20.EvalRuns: for every input the law returns true, and each argument reads afterwards as it read before. No condition. -/
import Derived.Test.YtepcpgdfbaklfaaGreatDoorRows
import Derived.Test.YtepcpgdfbaklfaaGreatDoorQcIm
import Derived.Test.YtepcpgdfbaklfaaGreatDoorQcTg9
import Derived.Test.YtepcpgdfbaklfaaGreatDoorTie
import Derived.Test.YtepcpgdfbaklfaaGreatDoorCards
import Derived.SevenTiedAt
import Derived.WalkKit
import Derived.ProofKit
import Derived.OpenShut
import Derived.ShutString
import Derived.ChangeOld
import Derived.Below
import Derived.HandedShaped
set_option maxRecDepth 100000
set_option linter.unusedVariables false
namespace Go.Proofs.YtepcpgdfbaklfaaGreatDoor.evalRunsRowProof
open Go.ChangeShapes Go.WideShapes Go.ChangeAt Go.RowKit
open Go.ChangeMaps (open_string shut_string)
theorem own:ownKnob Tryz.prog.godebug=none:=by kernel_rfl
theorem sQ:laidOutB Tryz.prog=true:=by kernel_rfl
theorem yN (os:Os)(o:os.Started)(H:Type)(enc:TypeId×Value->H):
 ReturnsInHanded {} Tryz.checked os 3 .any (λw args=>(Rows.evalRunsSpec.pre enc Tryz.prog Tryz.f3 [] false w args/\laidMetH Tryz.prog gG w)/\sizedMet enc Tryz.prog Tryz.f3 (OpenSpec.ofChange Rows.evalRunsSpec) false w args) (Rows.evalRunsSpec.post enc Tryz.prog Tryz.f3 false true false false):=by
 refine ny (C:=Tryz.checked) (X:=(λw _=>laidMetH Tryz.prog gG w)) (λ_ _ _ hh h=>h.of_heap hh) own o (by kernel_rfl) Tryz.func3
  (ChangeSpec.witness_shaped (enc:=enc) (C:=Tryz.checked) (os:=os) (X:=(λw _=>laidMetH Tryz.prog gG w)) false (jt os) #[.agg #[.slice none 0 0,.slice none 0 0],.agg #[.int .u8 0,.bool false,.int .i64 0,.int .u64 0,.string ByteArray.empty,.slice none 0 0,.slice none 0 0],.int .i64 0,.int .i64 0] 8 (nU _)
    (World.shaped_of_ZipB (by kernel_rfl) (by kernel_rfl)) (by kernel_rfl) (by kernel_rfl) (by kernel_rfl) (by rw[MakeChecks.laidMetH_plain _ _ _ (by kernel_rfl)];exact mL os _)) ?_
 intro W base args ds gs J r hW hz hL R
 rw[MakeChecks.laidMetH_plain _ _ _ (by kernel_rfl)]at hL
 have m:∀(j:Nat) t v,Tryz.f3.params[j]? =some t->args[j]? =some v->Value.okWide Tryz.prog W .any base t v:=r
 have E:=hW
 obtain⟨p,q,I,hV,rfl,ah,ag⟩:=hW
 have hA:DataW.TrodAll enc Tryz.prog W 0 (λ_=>true) true Tryz.f3.params.toList args.toList ds p:=I
 rw[Tryz.params3]at hA m
 obtain⟨v0,ad,d0,al,p0,q0,Y,rfl,rfl,h0,r0⟩:=trodAll_cons hA
 obtain⟨v1,ac,d1,ak,p1,q1,rfl,rfl,rfl,h1,r1⟩:=trodAll_cons r0
 obtain⟨Z,ab,d2,aj,p2,q2,rfl,rfl,rfl,h2,r2⟩:=trodAll_cons r1
 obtain⟨v3,aa,d3,ai,p3,q3,rfl,rfl,rfl,h3,r3⟩:=trodAll_cons r2
 obtain⟨rfl,rfl,rfl⟩:=trodAll_nil r3
 obtain rfl:args=#[v0,v1,Z,v3]:=by cases args;simp_all
 obtain⟨rfl,rfl⟩:=trodVars_none hV
 have V:=h0
 have N:=kI _ _ hz 0 25 d0 rfl rfl
 obtain⟨t0,ae,af,rfl,A⟩:=mH (m 0 25 v0 rfl rfl) h0 N
 obtain⟨ao,am,rfl,-⟩:=id A.main
 obtain⟨ap,an,rfl,-⟩:=id A.defs
 have U:=h1
 have M:=kI _ _ hz 1 31 d1 rfl rfl
 obtain⟨x1,b1,c1,e1,g1,rfl,O,K⟩:=rc (m 1 31 v1 rfl rfl) h1 M
 obtain⟨a2,rfl,rfl,rfl,w2⟩:=open_int Tryz.underlying3 (m 2 3 Z rfl rfl) h2
 obtain⟨a3,rfl,rfl,rfl,w3⟩:=open_int Tryz.underlying3 (m 3 3 v3 rfl rfl) h3
 clear I r
 simp only[List.append_nil]at E
 have G:=E.lt
 have HG:Gd W:=⟨nx R,nj hL⟩
 refine(mP t0 A.wide x1 K _ _ _ _ _ _ _ _ W HG A.main A.defs O a2 a3).mono λe W' ⟨he,bel⟩=> ?_
 subst he
 exact⟨_,rfl,_,_,_,[],_,[],E,trodAll_mk1 (shut_bool Tryz.underlying4 _),(trodAll_cons_mk (Below.trod sQ (by kernel_rfl) (of_decide_eq_true (by kernel_rfl)) V bel (λx hx=>by simpa using G x (by simp[hx]))) (trodAll_cons_mk (Below.trod sQ (by kernel_rfl) (of_decide_eq_true (by kernel_rfl)) U bel (λx hx=>by simpa using G x (by simp[hx]))) (trodAll_cons_mk (shut_int Tryz.underlying3 w2) (trodAll_cons_mk (shut_int Tryz.underlying3 w3) trodAll_mk0)))),rfl,bel.frame _,λh=>by cases h⟩
theorem yG:Rows.evalRunsRow.holds Tryz.pinned (OpenSpec.ofChange Rows.evalRunsSpec):=
 OpenClaim.holds_of_wide 3 Tryz.f3 rfl rfl rfl rfl rfl rfl rfl ⟨rfl,rfl,rfl,rfl,rfl⟩ rfl rfl rfl rfl rfl (by kernel_rfl) Tryz.func3 (by kernel_rfl)
  (of_decide_eq_true (by kernel_rfl)) (by unfold Func.isWrapper;first | (rw[if_pos (by decide+kernel)];kernel_rfl) | (rw[if_neg (by decide+kernel)];exact⟨rfl,rfl⟩))
  (λos m H enc _=>yN os m H enc)
theorem proved:Rows.EvalRunsCardSaid:=
 Claim7.holds_tied_plain_at .later [] [.data,.pinned] true (true, "7ea9d330fb13c9e38a135f9ce1b8233c4591cdb0784e745dcf8cade10d27b975") true yG (λ_ h=>by cases h) (by kernel_rfl) (λ_ h=>by cases h) evalRuns_row_tie rfl ⟨rfl,rfl⟩ (by kernel_rfl) rfl
  (λf fn E o=>by
    obtain rfl:f=3:=Option.some.inj ((show Tryz.prog.funcNamed "lacuna/lacunalaw20.EvalRuns"=some 3 by kernel_rfl).symm.trans E) |>.symm
    obtain rfl:fn=Tryz.f3:=(Option.some.inj (Tryz.func3.symm.trans o)).symm
    exact⟨by kernel_rfl,λj t r=>by
     rw[Tryz.params3]at r
     have A:t∈[25,31,3,3]:=by simpa using Array.mem_of_getElem? r
     have m:([25,31,3,3].all λu=> !Tryz.prog.wantsStandIn u)=true:=by kernel_rfl
     exact(show Tryz.prog.wantsStandIn t=false by simpa using List.all_eq_true.1 m t A)⟩)
  (by kernel_rfl)
#print axioms proved
end Go.Proofs.YtepcpgdfbaklfaaGreatDoor.evalRunsRowProof
