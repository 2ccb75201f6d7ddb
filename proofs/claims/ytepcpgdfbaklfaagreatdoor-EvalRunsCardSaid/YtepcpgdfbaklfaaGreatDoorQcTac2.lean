/- The reader's action behind its maps: a text that begins as a gS. The condition: the source takes less than 2 to the 24th bytes; MaxLen holds some number. -/
import Derived.Test.YtepcpgdfbaklfaaGreatDoorQcTac0
import Derived.Test.YtepcpgdfbaklfaaGreatDoorQcTrc
set_option maxRecDepth 100000
set_option maxHeartbeats 10000000
set_option linter.unusedVariables false
namespace Go.Proofs.YtepcpgdfbaklfaaGreatDoor
open Go.RowKit Go.Shelf Go.ChangeMaps Go.MapKept
theorem zY (B q bx:Nat)(hq:q<=16777215)(x:ByteArray)(hx:x.size<=16777215)(at_:Nat)(ab:at_<=16777216)(s:St)(w:World)(h:RdM B q bx s w)(aA:Sh w)(hc:gS (bl x)=false):∀u,(oK B q bx hq x hx at_ ab s w h aA hc).2.1 u:=by
 unfold oK
 intro u aw bs sv dv cv hg T L WL R HA Y aj w2 wa wc w3 A K1 aC K0 aD O K af V ax M W
 clear h hc hg
 have r:=aj.out
 clear aj
 have ah:∀LB:List ByteArray,WL.map mkB=LB->Strs (Ok (gv aw w.heap.size) A) A (.slice wa L.length wc) LB:=λLB e=>by rw[<-e,Y.out];exact W.out
 cases WL with
 | nil=>
   have HE:Hid (action (bl x) at_ s=.err 190 at_):=HA.out
   have t0:((L.length:Int)==0)=true:=by rw[r];rfl
   clear HA R Y r M O K W
   go_wp2_with fail
   rw[HE.out]
   exact⟨rfl,V.out,rfl⟩
 | cons w0 WR=>
   have t0:((L.length:Int)==0)=false:=by rw[beq_eq_false_iff_ne,r];simp only[List.length_cons];omega
   have l0:0<L.length:=by rw[r];simp
   obtain⟨a,cc,ay,k1,k2,k3⟩:=W.out
   injection ay with e1 e2 e3
   subst e1;subst e3
   obtain⟨b,o,rfl,aB,av⟩:=k3 (by intro e;rw[e]at l0;simp at l0)
   have aa:A.cell? ⟨b,o,none⟩=some (.string (mkB w0)):=av 0 _ (by rw[<-Y.out];rfl)
   clear av k3 k1 k2 aB
   by_cases aq:w0=kIf
   · subst aq
     replace aa:A.cell? ⟨b,o,none⟩=some (.string ⟨#[105,102]⟩):=aa
     have ac:(Instr.lookup 156 (.map (some w2.heap.size)) (.string ⟨#[105,102]⟩) true).run Tryz.prog A=.ok (.tuple #[.func (.func 82) #[.pointer (some ⟨bx,0,none⟩)] #[],.bool true]) A:=
      ez _ _ _ _ _ _ _ 0 _ true Tryz.underlying156 Tryz.underlying9 K rfl
     have ag:(Instr.lookup 89 (.map (some w3.heap.size)) (.string ⟨#[105,102]⟩) false).run Tryz.prog A=.ok (.int .i64 2) A:=
      ez _ _ _ _ _ _ _ 0 _ false Tryz.underlying89 Tryz.underlying9 O rfl
     by_cases hn:WR.length=1
     · have t9:((L.length:Int)==2)=true:=by rw[beq_iff_eq,r];simp only[List.length_cons];omega
       obtain⟨y,rfl⟩:∃y,WR=[y]:=by
        match WR,hn with
        | [y],_=>exact⟨y,rfl⟩
       have VC:Hid (Calls Tryz.prog 82 #[.pointer (some ⟨bx,0,none⟩),.slice (some ⟨b,o,none⟩) L.length wc,.int .i64 (at_:Nat)] A (ew B (q+2) bx A (action (bl x) at_ s))):=by
        have hy:y.length<=16777216:=by have:=R.out y (by simp);rw[fH]at this;omega
        have:=gD B q bx 3 kIf y (by first | exact .inl ⟨rfl,rfl⟩ | exact .inr ⟨rfl,rfl⟩) hy at_ ab s _ bs sv dv cv _ A M.out af (ah _ rfl)
        unfold Hid
        rw[HA.out,tL]
        refine Calls.mono ?_ λe w' hp=>ew.more hp (Nat.le_add_right q 2)
        exact this
       have Z:L.length=2:=by rw[r];rfl
       rw[Z]at VC ⊢
       clear HA R Y r M O K W hn Z t9 t0 l0
       go_wp2_with fail
       refine VC.out.mono ?_
       rintro e w5 ⟨E,U⟩
       have I:=AF (V.out.trans E)
       clear E VC
       cases J:action (bl x) at_ s with
       | ok s3=>
         have G:=AF J
         rw[J]at U
         obtain⟨rfl,h6⟩:=U
         have H6:=AF h6
         clear h6 J
         go_wp2_with fail
         first | go_end0 | refine bodyPost_ret (results_none rfl _ _ _) rfl ?_
         rw[G.out]
         exact⟨I.out,rfl,H6.out⟩
       | err ee ii=>
         rw[J]at U
         have G:=AF J
         have h6:e=.panicked [{v:=.iface 84 (.agg #[.int .i64 (ee:Nat),.int .i64 (ii:Nat)]),recovered:=false}]:=U
         subst h6
         clear U J
         go_wp2_with fail
         try rw[G.out]
         exact⟨rfl,I.out,rfl⟩
     have t9:((L.length:Int)==2)=false:=by rw[beq_eq_false_iff_ne,r];simp only[List.length_cons];omega
     have HE:Hid (action (bl x) at_ s=.err 190 at_):=by unfold Hid;rw[HA.out];exact fE kIf WR 1 at_ s (by decide) hn
     obtain⟨m,hm⟩:∃m,L.length=m:=⟨_,rfl⟩
     rw[hm]at t0 l0 t9 ⊢
     have ad:∃v,((m:Int)==1)=v:=⟨_,rfl⟩
     obtain⟨v1,t1⟩:=ad
     clear hm
     clear HA R Y r M O K W hn
     cases v1
     all_goals
      go_wp2_with fail
      rw[HE.out]
      exact⟨rfl,V.out,rfl⟩
   by_cases ap:w0=eu
   · subst ap
     replace aa:A.cell? ⟨b,o,none⟩=some (.string ⟨#[114,97,110,103,101]⟩):=aa
     have ac:(Instr.lookup 156 (.map (some w2.heap.size)) (.string ⟨#[114,97,110,103,101]⟩) true).run Tryz.prog A=.ok (.tuple #[.func (.func 82) #[.pointer (some ⟨bx,0,none⟩)] #[],.bool true]) A:=
      ez _ _ _ _ _ _ _ 1 _ true Tryz.underlying156 Tryz.underlying9 K rfl
     have ag:(Instr.lookup 89 (.map (some w3.heap.size)) (.string ⟨#[114,97,110,103,101]⟩) false).run Tryz.prog A=.ok (.int .i64 2) A:=
      ez _ _ _ _ _ _ _ 1 _ false Tryz.underlying89 Tryz.underlying9 O rfl
     by_cases hn:WR.length=1
     · have t9:((L.length:Int)==2)=true:=by rw[beq_iff_eq,r];simp only[List.length_cons];omega
       obtain⟨y,rfl⟩:∃y,WR=[y]:=by
        match WR,hn with
        | [y],_=>exact⟨y,rfl⟩
       have VC:Hid (Calls Tryz.prog 82 #[.pointer (some ⟨bx,0,none⟩),.slice (some ⟨b,o,none⟩) L.length wc,.int .i64 (at_:Nat)] A (ew B (q+2) bx A (action (bl x) at_ s))):=by
        have hy:y.length<=16777216:=by have:=R.out y (by simp);rw[fH]at this;omega
        have:=gD B q bx 4 eu y (by first | exact .inl ⟨rfl,rfl⟩ | exact .inr ⟨rfl,rfl⟩) hy at_ ab s _ bs sv dv cv _ A M.out af (ah _ rfl)
        unfold Hid
        rw[HA.out,mp]
        refine Calls.mono ?_ λe w' hp=>ew.more hp (Nat.le_add_right q 2)
        exact this
       have Z:L.length=2:=by rw[r];rfl
       rw[Z]at VC ⊢
       clear HA R Y r M O K W hn Z t9 t0 l0
       go_wp2_with fail
       refine VC.out.mono ?_
       rintro e w5 ⟨E,U⟩
       have I:=AF (V.out.trans E)
       clear E VC
       cases J:action (bl x) at_ s with
       | ok s3=>
         have G:=AF J
         rw[J]at U
         obtain⟨rfl,h6⟩:=U
         have H6:=AF h6
         clear h6 J
         go_wp2_with fail
         first | go_end0 | refine bodyPost_ret (results_none rfl _ _ _) rfl ?_
         rw[G.out]
         exact⟨I.out,rfl,H6.out⟩
       | err ee ii=>
         rw[J]at U
         have G:=AF J
         have h6:e=.panicked [{v:=.iface 84 (.agg #[.int .i64 (ee:Nat),.int .i64 (ii:Nat)]),recovered:=false}]:=U
         subst h6
         clear U J
         go_wp2_with fail
         try rw[G.out]
         exact⟨rfl,I.out,rfl⟩
     have t9:((L.length:Int)==2)=false:=by rw[beq_eq_false_iff_ne,r];simp only[List.length_cons];omega
     have HE:Hid (action (bl x) at_ s=.err 190 at_):=by unfold Hid;rw[HA.out];exact fE eu WR 1 at_ s (by decide) hn
     obtain⟨m,hm⟩:∃m,L.length=m:=⟨_,rfl⟩
     rw[hm]at t0 l0 t9 ⊢
     have ad:∃v,((m:Int)==1)=v:=⟨_,rfl⟩
     obtain⟨v1,t1⟩:=ad
     clear hm
     clear HA R Y r M O K W hn
     cases v1
     all_goals
      go_wp2_with fail
      rw[HE.out]
      exact⟨rfl,V.out,rfl⟩
   by_cases ao:w0=eY
   · subst ao
     replace aa:A.cell? ⟨b,o,none⟩=some (.string ⟨#[99,97,108,108]⟩):=aa
     have ac:(Instr.lookup 156 (.map (some w2.heap.size)) (.string ⟨#[99,97,108,108]⟩) true).run Tryz.prog A=.ok (.tuple #[.func (.func 83) #[.pointer (some ⟨bx,0,none⟩)] #[],.bool true]) A:=
      ez _ _ _ _ _ _ _ 2 _ true Tryz.underlying156 Tryz.underlying9 K rfl
     have ag:(Instr.lookup 89 (.map (some w3.heap.size)) (.string ⟨#[99,97,108,108]⟩) false).run Tryz.prog A=.ok (.int .i64 3) A:=
      ez _ _ _ _ _ _ _ 2 _ false Tryz.underlying89 Tryz.underlying9 O rfl
     by_cases hn:WR.length=2
     · have t9:((L.length:Int)==3)=true:=by rw[beq_iff_eq,r];simp only[List.length_cons];omega
       obtain⟨y,z,rfl⟩:∃y z,WR=[y,z]:=by
        match WR,hn with
        | [y,z],_=>exact⟨y,z,rfl⟩
       have VC:Hid (Calls Tryz.prog 83 #[.pointer (some ⟨bx,0,none⟩),.slice (some ⟨b,o,none⟩) L.length wc,.int .i64 (at_:Nat)] A (ew B (q+2) bx A (action (bl x) at_ s))):=by
        have hy:y.length<=16777216:=by have:=R.out y (by simp);rw[fH]at this;omega
        have hz:z.length<=16777216:=by have:=R.out z (by simp);rw[fH]at this;omega
        have:=ml B q bx hq eY y z hy hz at_ ab s _ bs sv dv cv _ A M.out af (ah _ rfl)
        unfold Hid
        rw[HA.out,oJ]
        exact this
       have Z:L.length=3:=by rw[r];rfl
       rw[Z]at VC ⊢
       clear HA R Y r M O K W hn Z t9 t0 l0
       go_wp2_with fail
       refine VC.out.mono ?_
       rintro e w5 ⟨E,U⟩
       have I:=AF (V.out.trans E)
       clear E VC
       cases J:action (bl x) at_ s with
       | ok s3=>
         have G:=AF J
         rw[J]at U
         obtain⟨rfl,h6⟩:=U
         have H6:=AF h6
         clear h6 J
         go_wp2_with fail
         first | go_end0 | refine bodyPost_ret (results_none rfl _ _ _) rfl ?_
         rw[G.out]
         exact⟨I.out,rfl,H6.out⟩
       | err ee ii=>
         rw[J]at U
         have G:=AF J
         have h6:e=.panicked [{v:=.iface 84 (.agg #[.int .i64 (ee:Nat),.int .i64 (ii:Nat)]),recovered:=false}]:=U
         subst h6
         clear U J
         go_wp2_with fail
         try rw[G.out]
         exact⟨rfl,I.out,rfl⟩
     have t9:((L.length:Int)==3)=false:=by rw[beq_eq_false_iff_ne,r];simp only[List.length_cons];omega
     have HE:Hid (action (bl x) at_ s=.err 190 at_):=by unfold Hid;rw[HA.out];exact fE eY WR 2 at_ s (by decide) hn
     obtain⟨m,hm⟩:∃m,L.length=m:=⟨_,rfl⟩
     rw[hm]at t0 l0 t9 ⊢
     have ad:∃v,((m:Int)==1)=v:=⟨_,rfl⟩
     obtain⟨v1,t1⟩:=ad
     clear hm
     clear HA R Y r M O K W hn
     cases v1
     all_goals
      go_wp2_with fail
      rw[HE.out]
      exact⟨rfl,V.out,rfl⟩
   by_cases an:w0=lK
   · subst an
     replace aa:A.cell? ⟨b,o,none⟩=some (.string ⟨#[100,101,102,105,110,101]⟩):=aa
     have ac:(Instr.lookup 156 (.map (some w2.heap.size)) (.string ⟨#[100,101,102,105,110,101]⟩) true).run Tryz.prog A=.ok (.tuple #[.func (.func 84) #[.pointer (some ⟨bx,0,none⟩)] #[],.bool true]) A:=
      ez _ _ _ _ _ _ _ 3 _ true Tryz.underlying156 Tryz.underlying9 K rfl
     have ag:(Instr.lookup 89 (.map (some w3.heap.size)) (.string ⟨#[100,101,102,105,110,101]⟩) false).run Tryz.prog A=.ok (.int .i64 2) A:=
      ez _ _ _ _ _ _ _ 3 _ false Tryz.underlying89 Tryz.underlying9 O rfl
     by_cases hn:WR.length=1
     · have t9:((L.length:Int)==2)=true:=by rw[beq_iff_eq,r];simp only[List.length_cons];omega
       obtain⟨y,rfl⟩:∃y,WR=[y]:=by
        match WR,hn with
        | [y],_=>exact⟨y,rfl⟩
       have VC:Hid (Calls Tryz.prog 84 #[.pointer (some ⟨bx,0,none⟩),.slice (some ⟨b,o,none⟩) L.length wc,.int .i64 (at_:Nat)] A (ew B (q+2) bx A (action (bl x) at_ s))):=by
        have hy:y.length<=16777216:=by have:=R.out y (by simp);rw[fH]at this;omega
        have:=j8 B q bx (by omega) lK y hy at_ ab s _ bs sv dv cv _ A M.out (ah _ rfl)
        unfold Hid
        rw[HA.out,qE]
        refine Calls.mono ?_ λe w' hp=>ew.more hp (Nat.le_add_right q 2)
        exact this
       have Z:L.length=2:=by rw[r];rfl
       rw[Z]at VC ⊢
       clear HA R Y r M O K W hn Z t9 t0 l0
       go_wp2_with fail
       refine VC.out.mono ?_
       rintro e w5 ⟨E,U⟩
       have I:=AF (V.out.trans E)
       clear E VC
       cases J:action (bl x) at_ s with
       | ok s3=>
         have G:=AF J
         rw[J]at U
         obtain⟨rfl,h6⟩:=U
         have H6:=AF h6
         clear h6 J
         go_wp2_with fail
         first | go_end0 | refine bodyPost_ret (results_none rfl _ _ _) rfl ?_
         rw[G.out]
         exact⟨I.out,rfl,H6.out⟩
       | err ee ii=>
         rw[J]at U
         have G:=AF J
         have h6:e=.panicked [{v:=.iface 84 (.agg #[.int .i64 (ee:Nat),.int .i64 (ii:Nat)]),recovered:=false}]:=U
         subst h6
         clear U J
         go_wp2_with fail
         try rw[G.out]
         exact⟨rfl,I.out,rfl⟩
     have t9:((L.length:Int)==2)=false:=by rw[beq_eq_false_iff_ne,r];simp only[List.length_cons];omega
     have HE:Hid (action (bl x) at_ s=.err 190 at_):=by unfold Hid;rw[HA.out];exact fE lK WR 1 at_ s (by decide) hn
     obtain⟨m,hm⟩:∃m,L.length=m:=⟨_,rfl⟩
     rw[hm]at t0 l0 t9 ⊢
     have ad:∃v,((m:Int)==1)=v:=⟨_,rfl⟩
     obtain⟨v1,t1⟩:=ad
     clear hm
     clear HA R Y r M O K W hn
     cases v1
     all_goals
      go_wp2_with fail
      rw[HE.out]
      exact⟨rfl,V.out,rfl⟩
   by_cases am:w0=fX
   · subst am
     replace aa:A.cell? ⟨b,o,none⟩=some (.string ⟨#[101,108,115,101]⟩):=aa
     have ac:(Instr.lookup 156 (.map (some w2.heap.size)) (.string ⟨#[101,108,115,101]⟩) true).run Tryz.prog A=.ok (.tuple #[.func (.func 85) #[.pointer (some ⟨bx,0,none⟩)] #[],.bool true]) A:=
      ez _ _ _ _ _ _ _ 4 _ true Tryz.underlying156 Tryz.underlying9 K rfl
     have ag:(Instr.lookup 89 (.map (some w3.heap.size)) (.string ⟨#[101,108,115,101]⟩) false).run Tryz.prog A=.ok (.int .i64 1) A:=
      ez _ _ _ _ _ _ _ 4 _ false Tryz.underlying89 Tryz.underlying9 O rfl
     by_cases hn:WR.length=0
     · have t9:((L.length:Int)==1)=true:=by rw[beq_iff_eq,r];simp only[List.length_cons];omega
       obtain rfl:WR=[]:=List.length_eq_zero_iff.1 hn
       have VC:Hid (Calls Tryz.prog 85 #[.pointer (some ⟨bx,0,none⟩),.slice (some ⟨b,o,none⟩) L.length wc,.int .i64 (at_:Nat)] A (ew B (q+2) bx A (action (bl x) at_ s))):=by
        have:=kP B q bx at_ ab s (.slice (some ⟨b,o,none⟩) L.length wc) A ⟨_,_,_,_,_,M.out⟩
        unfold Hid
        rw[HA.out,oI]
        refine Calls.mono ?_ λe w' hp=>ew.more (q:=q) hp (by omega)
        exact this
       have Z:L.length=1:=by rw[r];rfl
       rw[Z]at VC ⊢
       clear HA R Y r M O K W hn Z t9 t0 l0
       go_wp2_with fail
       refine VC.out.mono ?_
       rintro e w5 ⟨E,U⟩
       have I:=AF (V.out.trans E)
       clear E VC
       cases J:action (bl x) at_ s with
       | ok s3=>
         have G:=AF J
         rw[J]at U
         obtain⟨rfl,h6⟩:=U
         have H6:=AF h6
         clear h6 J
         go_wp2_with fail
         first | go_end0 | refine bodyPost_ret (results_none rfl _ _ _) rfl ?_
         rw[G.out]
         exact⟨I.out,rfl,H6.out⟩
       | err ee ii=>
         rw[J]at U
         have G:=AF J
         have h6:e=.panicked [{v:=.iface 84 (.agg #[.int .i64 (ee:Nat),.int .i64 (ii:Nat)]),recovered:=false}]:=U
         subst h6
         clear U J
         go_wp2_with fail
         try rw[G.out]
         exact⟨rfl,I.out,rfl⟩
     have t9:((L.length:Int)==1)=false:=by rw[beq_eq_false_iff_ne,r];simp only[List.length_cons];omega
     have HE:Hid (action (bl x) at_ s=.err 190 at_):=by unfold Hid;rw[HA.out];exact fE fX WR 0 at_ s (by decide) hn
     obtain⟨m,hm⟩:∃m,L.length=m:=⟨_,rfl⟩
     rw[hm]at t0 l0 t9 ⊢
     clear hm
     clear HA R Y r M O K W hn
     go_wp2_with fail
     rw[HE.out]
     exact⟨rfl,V.out,rfl⟩
   by_cases al:w0=jS
   · subst al
     replace aa:A.cell? ⟨b,o,none⟩=some (.string ⟨#[101,110,100]⟩):=aa
     have ac:(Instr.lookup 156 (.map (some w2.heap.size)) (.string ⟨#[101,110,100]⟩) true).run Tryz.prog A=.ok (.tuple #[.func (.func 86) #[.pointer (some ⟨bx,0,none⟩)] #[],.bool true]) A:=
      ez _ _ _ _ _ _ _ 5 _ true Tryz.underlying156 Tryz.underlying9 K rfl
     have ag:(Instr.lookup 89 (.map (some w3.heap.size)) (.string ⟨#[101,110,100]⟩) false).run Tryz.prog A=.ok (.int .i64 1) A:=
      ez _ _ _ _ _ _ _ 5 _ false Tryz.underlying89 Tryz.underlying9 O rfl
     by_cases hn:WR.length=0
     · have t9:((L.length:Int)==1)=true:=by rw[beq_iff_eq,r];simp only[List.length_cons];omega
       obtain rfl:WR=[]:=List.length_eq_zero_iff.1 hn
       have VC:Hid (Calls Tryz.prog 86 #[.pointer (some ⟨bx,0,none⟩),.slice (some ⟨b,o,none⟩) L.length wc,.int .i64 (at_:Nat)] A (ew B (q+2) bx A (action (bl x) at_ s))):=by
        have:=og B q bx at_ (by omega) ab s (.slice (some ⟨b,o,none⟩) L.length wc) A ⟨_,_,_,_,_,M.out⟩
        unfold Hid
        rw[HA.out,qD]
        refine Calls.mono ?_ λe w' hp=>ew.more (q:=q+1) hp (by omega)
        exact this
       have Z:L.length=1:=by rw[r];rfl
       rw[Z]at VC ⊢
       clear HA R Y r M O K W hn Z t9 t0 l0
       go_wp2_with fail
       refine VC.out.mono ?_
       rintro e w5 ⟨E,U⟩
       have I:=AF (V.out.trans E)
       clear E VC
       cases J:action (bl x) at_ s with
       | ok s3=>
         have G:=AF J
         rw[J]at U
         obtain⟨rfl,h6⟩:=U
         have H6:=AF h6
         clear h6 J
         go_wp2_with fail
         first | go_end0 | refine bodyPost_ret (results_none rfl _ _ _) rfl ?_
         rw[G.out]
         exact⟨I.out,rfl,H6.out⟩
       | err ee ii=>
         rw[J]at U
         have G:=AF J
         have h6:e=.panicked [{v:=.iface 84 (.agg #[.int .i64 (ee:Nat),.int .i64 (ii:Nat)]),recovered:=false}]:=U
         subst h6
         clear U J
         go_wp2_with fail
         try rw[G.out]
         exact⟨rfl,I.out,rfl⟩
     have t9:((L.length:Int)==1)=false:=by rw[beq_eq_false_iff_ne,r];simp only[List.length_cons];omega
     have HE:Hid (action (bl x) at_ s=.err 190 at_):=by unfold Hid;rw[HA.out];exact fE jS WR 0 at_ s (by decide) hn
     obtain⟨m,hm⟩:∃m,L.length=m:=⟨_,rfl⟩
     rw[hm]at t0 l0 t9 ⊢
     clear hm
     clear HA R Y r M O K W hn
     go_wp2_with fail
     rw[HE.out]
     exact⟨rfl,V.out,rfl⟩
   have ak:kws.contains w0=false:=by
    rw[Bool.eq_false_iff]
    intro e
    rw[List.contains_eq_mem]at e
    simp only[kws,List.mem_cons,List.not_mem_nil,or_false,decide_eq_true_eq]at e
    rcases e with e | e | e | e | e | e
    · exact aq e
    · exact am e
    · exact al e
    · exact ap e
    · exact ao e
    · exact an e
   clear aq ap ao an am al
   have ac:(Instr.lookup 156 (.map (some w2.heap.size)) (.string (mkB w0)) true).run Tryz.prog A=.ok (.tuple #[.nilFunc,.bool false]) A:=
    fL _ _ 155 _ _ _ _ _ true Tryz.underlying156 Tryz.underlying9 K (nf bx (mkB w0) ak) (by kernel_rfl)
   obtain⟨X,hX⟩:∃X,mkB w0=X:=⟨_,rfl⟩
   rw[hX]at ac aa
   by_cases hr:WR=[]
   · subst hr
     have t1:((L.length:Int)==1)=true:=by rw[beq_iff_eq,r];rfl
     have ae:=HA.out
     rw[qC w0 at_ s ak]at ae
     have az:w0.length<=16777216:=by have:=R.out w0 (by simp);rw[fH]at this;omega
     have MU:=AF (iz (mkB w0) (by rw[fi];exact az) at_ ab A af)
     rw[pM,hX]at MU
     cases hw:kH w0 with
     | none=>
       rw[hw]at MU ae
       have HE:=AF ae
       clear hw ae HA R Y r M O K W hX
       go_wp2_with fail
       refine MU.out.mono ?_
       rintro e w5 ⟨E,rfl⟩
       have I:=AF (V.out.trans (E.mono (by have:=V.out.size;have:=ax.out;omega)))
       clear E
       go_wp2_with fail
       rw[HE.out]
       exact⟨rfl,I.out,rfl⟩
     | some p=>
       rw[hw]at MU ae
       have HE:=AF ae
       clear hw ae HA R Y r O K W hX
       go_wp2_with fail
       refine MU.out.mono ?_
       rintro e w5 ⟨E,v,rfl,ai⟩
       obtain⟨N,hN⟩:∃N,p.2.map mkB=N:=⟨_,rfl⟩
       rw[hN]at ai
       have ⟨va,vc,hv,_⟩:=ai
       subst hv
       have ar:Strs (Ok (gv (gv aw w.heap.size) A.heap.size) w5) w5 (.slice va N.length vc) N:=ai.mono (λb hb=>iC hb)
       have au:=M.out.same (gp (B:=B) E) (λ_=>trivial) (AG q)
       have I:=AF (V.out.trans (E.mono (by have:=V.out.size;have:=ax.out;omega)))
       have AD:Hid (Calls Tryz.prog 46 #[.pointer (some ⟨bx,0,none⟩),.agg #[.int .u8 2,.int .i64 (at_:Nat),.string ⟨#[]⟩,.bool p.1,.slice va N.length vc,.string ⟨#[]⟩,.slice none 0 0,.slice none 0 0]] w5 (ew B (q+1) bx w5 (action (bl x) at_ s))):=by
        have:=iv B q bx (by omega) s (jv at_ p.1 p.2) at_ ab rfl _ _ _ _ _ (.slice va N.length vc) w5 au (by show Strs _ _ _ (p.2.map mkB);rw[hN];exact ar)
        unfold Hid
        rw[HE.out]
        exact this
       have VC:=AF (Calls.mono AD.out λe w' hp=>ew.more hp (Nat.le_succ (q+1)))
       clear E ai ar au M AD
       replace V:=I
       go_wp2_with fail
       refine VC.out.mono ?_
       rintro e w5 ⟨E,U⟩
       have I:=AF (V.out.trans E)
       clear E VC
       cases J:action (bl x) at_ s with
       | ok s3=>
         have G:=AF J
         rw[J]at U
         obtain⟨rfl,h6⟩:=U
         have H6:=AF h6
         clear h6 J
         go_wp2_with fail
         first | go_end0 | refine bodyPost_ret (results_none rfl _ _ _) rfl ?_
         rw[G.out]
         exact⟨I.out,rfl,H6.out⟩
       | err ee ii=>
         rw[J]at U
         have G:=AF J
         have h6:e=.panicked [{v:=.iface 84 (.agg #[.int .i64 (ee:Nat),.int .i64 (ii:Nat)]),recovered:=false}]:=U
         subst h6
         clear U J
         go_wp2_with fail
         try rw[G.out]
         exact⟨rfl,I.out,rfl⟩
   · have HE:Hid (action (bl x) at_ s=.err 190 at_):=by unfold Hid;rw[HA.out];exact tK w0 WR at_ s ak hr
     have t1:((L.length:Int)==1)=false:=by
      rw[beq_eq_false_iff_ne,r]
      have:=List.length_pos_iff.2 hr
      simp only[List.length_cons];omega
     clear HA R Y r M O K W hX hr
     go_wp2_with fail
     rw[HE.out]
     exact⟨rfl,V.out,rfl⟩
open Go.RowKit Go.Shelf
theorem kg (B q bx:Nat)(I:q<=16777215)(x:ByteArray)(hx:x.size<=16777215)(at_:Nat)(o:at_<=16777216)(s:St)(w:World)(h:RdM B q bx s w)(m:Sh w):
 Calls Tryz.prog 47 #[.pointer (some ⟨bx,0,none⟩),.string x,.int .i64 (at_:Nat)] w (ew B (q+2) bx w (action (bl x) at_ s)):=by
 cases r:gS (bl x)with
 | false=>exact(oK B q bx I x hx at_ o s w h m r).2.2 (zZ B q bx I x hx at_ o s w h m r) (zY B q bx I x hx at_ o s w h m r)
 | true=>
   have U:Hid (action (bl x) at_ s=.ok s):=by unfold Hid action;rw[if_pos r]
   rw[mj,Bool.and_eq_true]at r
   obtain⟨N,M⟩:=r
   have O:=Tryz.strings_CutPrefix x ⟨#[47,42]⟩
   obtain⟨T,G⟩:∃T:ByteArray,(⟨(Lib.trimPrefix x.data.toList [47,42]).toArray⟩:ByteArray)=T:=⟨_,rfl⟩
   have J:Lib.hasPrefix x.data.toList [47,42]=true:=N
   rw[show(⟨#[47,42]⟩:ByteArray).data.toList=[47,42]from rfl,G,J]at O
   have K:T.size<=x.size:=by
    have e:T.size=(Lib.trimPrefix x.data.toList [47,42]).length:=by rw[<-G];exact fi _
    rw[e]
    have V:x.data.toList.length=x.size:=fH x
    unfold Lib.trimPrefix
    rw[if_pos J,List.length_drop];omega
   have A:Lib.hasSuffix T.data.toList [42,47]=true:=by rw[<-G];exact M
   have E:=AF (λw=>Tryz.strings_HasSuffix T ⟨#[42,47]⟩ w (by omega))
   rw[show(⟨#[42,47]⟩:ByteArray).data.toList=[42,47]from rfl,A]at E
   have R:=AF (h.mono (Nat.le_add_right q 2))
   clear N M J G K A h
   go_enter Tryz.func47,Tryz.ntmps47
   go_wp2_with fail
   refine(O _).mono ?_
   rintro e w' ⟨rfl,hw⟩
   replace hw:=hw.symm
   subst hw
   go_wp2_with fail
   refine(E.out _).mono ?_
   rintro e w' ⟨rfl,hw⟩
   replace hw:=hw.symm
   subst hw
   go_wp2_with fail
   first | go_end0 | refine bodyPost_ret (results_none rfl _ _ _) rfl ?_
   rw[U.out]
   exact⟨AH _ _,rfl,R.out⟩
theorem qU (n:Nat)(x:By)(at_:Nat)(s:St)(hx:x≠[])(o:x.length<=n):readF n x at_ s=match gq 123 x with
 | none=>s.add (ga at_ x) at_
 | some (a,r)=>(if a=[]then .ok s else s.add (ga at_ a) at_).bind λs=>match gq 125 r with
   | none=>.err 191 (at_+a.length)
   | some (i,m)=>(action i (at_+a.length) s).bind λs=>readF n m (at_+a.length+i.length+4) s:=by
 have A:readF n x at_ s=readF (n+1) x at_ s:=qV _ _ _ _ _ o (by omega)
 rw[A,readF,if_neg hx]
 cases gq 123 x with
 | none=>rfl
 | some q=>
   obtain⟨a,r⟩:=q
   dsimp only
   rfl
theorem jW (c:UInt8)(s:ByteArray)(A:s.size<=16777216)(w:World)(o:Sh w)(h:gq c (bl s)=none):
 Calls Tryz.prog 45 #[.string s,.string ⟨#[c,c]⟩] w λe w'=>e=.returned (.tuple #[.string s,.string ⟨#[]⟩,.bool false])/\Sl w w':=by
 obtain⟨m,r⟩:=o
 refine(Tryz.strings_Cut s ⟨#[c,c]⟩ m w (by omega) r).mono ?_
 rintro e w' ⟨rfl,n,rfl⟩
 refine⟨?_,Sl.drewN w n⟩
 rw[show(⟨#[c,c]⟩:ByteArray).data.toList=[c,c]from rfl]
 have:Lib.cut s.data.toList [c,c]=(bl s,[],false):=tu c (bl s) h
 rw[this]
 show Ending.returned (.tuple #[.string (mkB (bl s)),_,_])=_
 rw[gW]
theorem jV (c:UInt8)(s:ByteArray)(E:s.size<=16777216)(a r:By)(w:World)(o:Sh w)(h:gq c (bl s)=some (a,r)):
 Calls Tryz.prog 45 #[.string s,.string ⟨#[c,c]⟩] w λe w'=>e=.returned (.tuple #[.string (mkB a),.string (mkB r),.bool true])/\Sl w w':=by
 obtain⟨m,A⟩:=o
 refine(Tryz.strings_Cut s ⟨#[c,c]⟩ m w (by omega) A).mono ?_
 rintro e w' ⟨rfl,n,rfl⟩
 refine⟨?_,Sl.drewN w n⟩
 rw[show(⟨#[c,c]⟩:ByteArray).data.toList=[c,c]from rfl]
 have:Lib.cut s.data.toList [c,c]=(a,r,true):=tt c (bl s) a r h
 rw[this]
 rfl
def qF (w:World)(r:Option Nat)(e:Ending)(w':World):Prop:=Below w.heap.size w w'/\match r with
 | none=>e=.returned (.tuple #[])
 | some i=>e=.panicked [{v:=.iface 84 (.agg #[.int .i64 197,.int .i64 (i:Nat)]),recovered:=false}]
def xv (m:Nat):Value:=.iface 93 (.pointer (some ⟨m,0,none⟩))
def xw (n p:Nat):Obj:=.cells #[.string ⟨#[80,97,114,115,101]⟩,.int .i64 (p:Nat),.iface 37 (.int .i64 (n:Nat))] 95 (0,0)
def qG (w:World)(r:Rs Tm)(e:Ending)(w':World):Prop:=Below w.heap.size w w'/\match r with
 | .ok t=>∃o A,e=.returned (.tuple #[.agg #[o,A],.nilIface])/\d8 (λb=>w.heap.size<=b/\b<w'.heap.size) w' o t.main/\fU (λb=>w.heap.size<=b/\b<w'.heap.size) w' A t.defs
 | .err n p=>∃m,e=.returned (.tuple #[.agg #[.slice none 0 0,.slice none 0 0],xv m])/\w.heap.size<=m/\w'.heap[m]? =some (xw n p)
def mr (w:World)(r:Rs Tm)(e:Ending)(w':World):Prop:=Below w.heap.size w w'/\match r with
 | .ok t=>∃o A,e=.returned (.tuple #[.agg #[o,A],.nilIface])/\d8 (λb=>w.heap.size<=b/\b<w'.heap.size/\UnF w' b) w' o t.main/\fU (λb=>w.heap.size<=b/\b<w'.heap.size) w' A t.defs
 | .err n p=>∃m,e=.returned (.tuple #[.agg #[.slice none 0 0,.slice none 0 0],xv m])/\w.heap.size<=m/\w'.heap[m]? =some (xw n p)
theorem mr.weak {w:World}{r:Rs Tm}{e:Ending}{w':World}(h:mr w r e w'):qG w r e w':=by
 obtain⟨K,o⟩:=h
 refine⟨K,?_⟩
 cases r with
 | ok t=>
   obtain⟨A,E,I,G,J⟩:=o
   exact⟨A,E,I,G.mono (λb m=>⟨m.1,m.2.1⟩),J⟩
 | err n p=>exact o
theorem jn {w:World}{tmps:Array Value}{m o:Nat}{x y z:Value}(J:tmps.getD 2 undef=.pointer (some ⟨m,0,none⟩))(I:tmps.getD 3 undef=.pointer (some ⟨o,0,none⟩))
 (E:w.heap[m]? =some (.cells #[x,y] 25 (0,0))) (G:w.heap[o]? =some (.cells #[z] 64 (0,0))):
 (results Tryz.f26 tmps).run Tryz.prog w=.ok (.tuple #[.agg #[x,y],z]) w:=by
 have c:=λj=>dW E j
 have d:=λj=>dW G j
 have c0:w.cell? ⟨m,0,none⟩=some x:=c 0
 have c1:w.cell? ⟨m,1,none⟩=some y:=c 1
 have K:w.cell? ⟨o,0,none⟩=some z:=d 0
 have A:tmps[2]?.getD undef=.pointer (some ⟨m,0,none⟩):=by rw[<-J];simp
 have r:tmps[3]?.getD undef=.pointer (some ⟨o,0,none⟩):=by rw[<-I];simp
 clear c d E G
 simp[results,Tryz.results26,A,r,go_sem,c0,c1,K]
def qt (m o:Nat):List Deferred:=[{target:=.fn (.func 43) #[.pointer (some ⟨m,0,none⟩),.pointer (some ⟨o,0,none⟩)],args:=#[]}]
theorem pj {R:Ending->World->Prop}{a:Act}{W:World}{m o:Nat}{G J I:Value}(n p:Nat)(N:a.defers=qt m o)(V:a.tmps.getD 2 undef=.pointer (some ⟨m,0,none⟩))(U:a.tmps.getD 3 undef=.pointer (some ⟨o,0,none⟩))
 (E:m≠o) (K:W.heap[m]? =some (.cells #[G,J] 25 (0,0))) (M:W.heap[o]? =some (.cells #[I] 64 (0,0)))
 (O:∀r w',W.heap.size<=r->w'.heap[r]? =some (xw n p)->w'.os=W.os->w'.tape=W.tape->w'.output=W.output->W.heap.size<=w'.heap.size->(∀b,b<W.heap.size->b≠m->b≠o->w'.heap[b]? =W.heap[b]?)->
   R (.returned (.tuple #[.agg #[.slice none 0 0,.slice none 0 0],xv r])) w'):
 bodyPostD Tryz.prog Tryz.f26 R (.panic [{v:=.iface 84 (.agg #[.int .i64 (n:Nat),.int .i64 (p:Nat)]),recovered:=false}]) a W:=by
 show Leaves _ _ _ _ a.defers _ _
 rw[N]
 refine leaves_cons (f:=43) (args:=#[.pointer (some ⟨m,0,none⟩),.pointer (some ⟨o,0,none⟩)]) (by simp) (by simp[go_sem]) ?_
 refine(nL m o E G J I n p W K M).mono ?_
 rintro e u' A ⟨rfl,rfl,⟨c1,⟨r,c2,c3,c4⟩,c5,c6,Z,Y,c9⟩⟩
 exact⟨_,jn V U c1 c3,O r A c2 c4 c5 c6 Z Y c9⟩
theorem nJ {R:Ending->World->Prop}{a:Act}{W:World}{m o:Nat}{r E A:Value}(K:a.defers=qt m o)(O:a.tmps.getD 2 undef=.pointer (some ⟨m,0,none⟩))(N:a.tmps.getD 3 undef=.pointer (some ⟨o,0,none⟩))
 (I:W.heap[m]? =some (.cells #[r,E] 25 (0,0))) (J:W.heap[o]? =some (.cells #[A] 64 (0,0)))
 (M:R (.returned (.tuple #[.agg #[r,E],A])) W):
 bodyPostD Tryz.prog Tryz.f26 R .ret a W:=by
 show Leaves _ _ _ _ a.defers _ _
 rw[K]
 refine leaves_cons (f:=43) (args:=#[.pointer (some ⟨m,0,none⟩),.pointer (some ⟨o,0,none⟩)]) (by simp) (by simp[go_sem]) ?_
 refine(pq ⟨m,0,none⟩ ⟨o,0,none⟩ W).mono ?_
 rintro e U G ⟨rfl,rfl,rfl⟩
 exact⟨_,jn O N I J,M⟩
def xI (n:Nat)(b:Nat):Nat:=if b<n then 1 else if b=n then 5 else if b=n+1 then 2 else if b=n+2 then 1 else 0
theorem RdG.start (w:World):RdG w.heap.size 0 (w.heap.size+2) St.start (xI w.heap.size) [w.heap.size] (.slice (some ⟨w.heap.size+1,0,none⟩) 1 1) (.slice none 0 0) (.slice none 0 0)
 (((w.alloc (.cells (frCells Fr.main (.slice none 0 0) (.slice none 0 0) (.slice none 0 0)) 100 (0,0))).alloc (.cells #[.pointer (some ⟨w.heap.size,0,none⟩)] 98 (0,0))).alloc
   (.cells (ij (.slice (some ⟨w.heap.size+1,0,none⟩) 1 1) (.slice none 0 0) 0 (.slice none 0 0)) 103 (0,0))):=by
 generalize hx:Obj.cells (frCells Fr.main (.slice none 0 0) (.slice none 0 0) (.slice none 0 0)) 100 (0,0)=X
 generalize A:Obj.cells #[.pointer (some ⟨w.heap.size,0,none⟩)] 98 (0,0)=Y
 generalize r:Obj.cells (ij (.slice (some ⟨w.heap.size+1,0,none⟩) 1 1) (.slice none 0 0) 0 (.slice none 0 0)) 103 (0,0)=Z
 have o:(w.alloc X).heap.size=w.heap.size+1:=by simp
 have m:((w.alloc X).alloc Y).heap.size=w.heap.size+2:=by simp
 have M:(((w.alloc X).alloc Y).alloc Z).heap[w.heap.size+2]? =some Z:=by have:=heap_alloc_new ((w.alloc X).alloc Y) Z;rwa[m]at this
 have N:(((w.alloc X).alloc Y).alloc Z).heap[w.heap.size+1]? =some Y:=by
  rw[Below.heap_alloc _ _ _ (by omega)]
  have:=heap_alloc_new (w.alloc X) Y;rwa[o]at this
 have O:(((w.alloc X).alloc Y).alloc Z).heap[w.heap.size]? =some X:=by
  rw[Below.heap_alloc _ _ _ (by omega),Below.heap_alloc _ _ _ (by omega)]
  exact heap_alloc_new w X
 have K:xI w.heap.size w.heap.size=5:=by unfold xI;rw[if_neg (by omega),if_pos rfl]
 have J:xI w.heap.size (w.heap.size+1)=2:=by unfold xI;rw[if_neg (by omega),if_neg (by omega),if_pos rfl]
 have I:xI w.heap.size (w.heap.size+2)=1:=by unfold xI;rw[if_neg (by omega),if_neg (by omega),if_neg (by omega),if_pos rfl]
 exact{
  bb:=by omega
  cx:=I
  hx:=by rw[M,←r];rfl
  st:=⟨⟨rfl,.inr ⟨w.heap.size+1,1,_,rfl,by omega,N.trans (by rw[<-A]),AG _,by decide,rfl,rfl⟩⟩,λg E=>by
   have:w.heap.size+1=g:=by simpa[Value.ownBlock]using E
   rw[<-this];exact J⟩
  fr:=⟨w.heap.size,[],rfl,⟨AG _,K,AG _,_,_,_,O.trans (by rw[<-hx];rfl),Strs.nil _ _,d8.nil _ _,oO.nil _ _ _ _⟩,rfl⟩
  df:=⟨[],⟨World.ownsRow_nil _ _ _ _,λg h=>by cases h⟩,rfl⟩
  cl:=⟨[],⟨World.ownsRow_nil _ _ _ _,λg h=>by cases h⟩,rfl⟩
  l1:=by decide
  l2:=by decide
  l3:=AG _
  l4:=AG _
  hB:=by simp;omega
  ol:=λb G=>if_pos G}
end Go.Proofs.YtepcpgdfbaklfaaGreatDoor
