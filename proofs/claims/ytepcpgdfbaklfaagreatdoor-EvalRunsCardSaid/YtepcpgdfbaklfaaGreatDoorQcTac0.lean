/- The reader's action up to its maps. The condition: the source takes at most 2 to the 24th bytes; MaxLen holds some number. -/
import Derived.Test.YtepcpgdfbaklfaaGreatDoorQcTma
import Derived.Test.YtepcpgdfbaklfaaGreatDoorQcTen
import Derived.Test.YtepcpgdfbaklfaaGreatDoorTdfQ
import Derived.Test.YtepcpgdfbaklfaaGreatDoorQcTrd
import Derived.Test.YtepcpgdfbaklfaaGreatDoorQcTeo
set_option maxRecDepth 100000
set_option maxHeartbeats 10000000
set_option linter.unusedVariables false
namespace Go.Proofs.YtepcpgdfbaklfaaGreatDoor
open Go.RowKit Go.Shelf Go.ChangeMaps Go.MapKept
def zv (bx:Nat):Array MapEntry:=(((((((#[]:Array MapEntry).push {key:=.string ⟨#[105,102]⟩,val:=.func (.func 82) #[.pointer (some ⟨bx,0,none⟩)] #[],born:=0}).push
 {key:=.string ⟨#[114,97,110,103,101]⟩,val:=.func (.func 82) #[.pointer (some ⟨bx,0,none⟩)] #[],born:=0+1}).push {key:=.string ⟨#[99,97,108,108]⟩,val:=.func (.func 83) #[.pointer (some ⟨bx,0,none⟩)] #[],born:=0+1+1}).push
 {key:=.string ⟨#[100,101,102,105,110,101]⟩,val:=.func (.func 84) #[.pointer (some ⟨bx,0,none⟩)] #[],born:=0+1+1+1}).push {key:=.string ⟨#[101,108,115,101]⟩,val:=.func (.func 85) #[.pointer (some ⟨bx,0,none⟩)] #[],born:=0+1+1+1+1}).push
 {key:=.string ⟨#[101,110,100]⟩,val:=.func (.func 86) #[.pointer (some ⟨bx,0,none⟩)] #[],born:=0+1+1+1+1+1})
def Ah:Array MapEntry:=(((((((#[]:Array MapEntry).push {key:=.string ⟨#[105,102]⟩,val:=.int .i64 2,born:=0}).push {key:=.string ⟨#[114,97,110,103,101]⟩,val:=.int .i64 2,born:=0+1}).push {key:=.string ⟨#[99,97,108,108]⟩,val:=.int .i64 3,born:=0+1+1}).push
 {key:=.string ⟨#[100,101,102,105,110,101]⟩,val:=.int .i64 2,born:=0+1+1+1}).push {key:=.string ⟨#[101,108,115,101]⟩,val:=.int .i64 1,born:=0+1+1+1+1}).push {key:=.string ⟨#[101,110,100]⟩,val:=.int .i64 1,born:=0+1+1+1+1+1})
theorem zS (s:ByteArray)(k:By)(h:bl s≠k):(s==mkB k)=false:=by
 obtain⟨d⟩:=s
 show(d==k.toArray)=false
 rw[beq_eq_false_iff_ne]
 rintro rfl
 exact h (by simp[bl])
theorem nf (bx:Nat)(s:ByteArray)(h:kws.contains (bl s)=false):Instr.findNow .string (.string s) (zv bx).toList 0=some none:=by
 have m:∀k∈kws,(s==mkB k)=false:=λk m=>zS s k (λe=>by
  rw[<-e]at m
  rw[List.contains_eq_mem]at h
  simp[m]at h)
 have I:(s==(⟨#[105,102]⟩:ByteArray))=false:=m kIf (by decide)
 have G:(s==(⟨#[114,97,110,103,101]⟩:ByteArray))=false:=m eu (by decide)
 have E:(s==(⟨#[99,97,108,108]⟩:ByteArray))=false:=m eY (by decide)
 have A:(s==(⟨#[100,101,102,105,110,101]⟩:ByteArray))=false:=m lK (by decide)
 have r:(s==(⟨#[101,108,115,101]⟩:ByteArray))=false:=m fX (by decide)
 have o:(s==(⟨#[101,110,100]⟩:ByteArray))=false:=m jS (by decide)
 simp[zv,Instr.findNow,Instr.sameNow,I,G,E,A,r,o]
theorem og (B q bx at_:Nat)(A:q<=16777216)(m:at_<=16777216)(s:St)(o:Value)(w:World)(h:RdM B q bx s w):
 Calls Tryz.prog 86 #[.pointer (some ⟨bx,0,none⟩),o,.int .i64 (at_:Nat)] w (ew B (q+1) bx w (s.endA at_)):=by
 obtain⟨f,rest,defs,many,calls⟩:=s
 cases rest with
 | nil=>exact(vg B q bx at_ m _ o w h rfl).mono λe w' I=>I.more (Nat.le_succ q)
 | cons G r=>
   by_cases E:f.kind=6
   · exact xy B q bx at_ A m f G r defs many calls E o w h
   · exact yW B q bx at_ A m f G r defs many calls E o w h
theorem yJ (L:List By)(m:List ByteArray)(h:L.map mkB=m):m.length=L.length:=by rw[<-h,List.length_map]
def tM (l:List By)(at_:Nat)(s:St):Rs St:=match l with
 | [w]=>act1 w at_ s
 | [w,x]=>act2 w x at_ s
 | [w,x,y]=>act3 w x y at_ s
 | _=>.err 190 at_
theorem vB (x:By)(at_:Nat)(s:St)(h:gS x=false):action x at_ s=tM (fG x) at_ s:=by
 unfold action tM
 rw[if_neg (by rw[h];decide)]
 rfl
theorem tK (w:By)(r:List By)(at_:Nat)(s:St)(h:kws.contains w=false)(o:r≠[]):tM (w::r) at_ s=.err 190 at_:=by
 have m:∀k∈kws,w≠k:=by
  rintro k m rfl
  rw[List.contains_eq_mem]at h
  simp[m]at h
 match r,o with
 | [x],_=>
   show act2 w x at_ s=_
   unfold act2
   rw[if_neg (by rintro(e | e);exact m kIf (by decide) e;exact m eu (by decide) e),if_neg (m lK (by decide))]
 | [x,y],_=>
   show act3 w x y at_ s=_
   unfold act3
   rw[if_neg (m eY (by decide))]
 | _::_::_::_,_=>rfl
theorem qC (w:By)(at_:Nat)(s:St)(h:kws.contains w=false):tM [w] at_ s=match kH w with
 | none=>.err 190 at_
 | some p=>s.add (jv at_ p.1 p.2) at_:=by
 have m:∀k∈kws,w≠k:=by
  rintro k m rfl
  rw[List.contains_eq_mem]at h
  simp[m]at h
 show act1 w at_ s=_
 unfold act1
 rw[if_neg (m jS (by decide)),if_neg (m fX (by decide))]
 cases kH w <;> rfl
theorem tL (y:By)(at_:Nat)(s:St):tM [kIf,y] at_ s=match kH y with
 | none=>.err 190 at_
 | some p=>(s.begin (uW 3 at_ p) at_).bind λs=>s.count at_:=by
 show act2 kIf y at_ s=_
 unfold act2
 rw[if_pos (.inl rfl),if_pos rfl]
 cases kH y <;> rfl
theorem mp (y:By)(at_:Nat)(s:St):tM [eu,y] at_ s=match kH y with
 | none=>.err 190 at_
 | some p=>(s.begin (uW 4 at_ p) at_).bind λs=>s.count at_:=by
 show act2 eu y at_ s=_
 unfold act2
 rw[if_pos (.inr rfl),if_neg (by decide)]
 cases kH y <;> rfl
theorem oJ (y z:By)(at_:Nat)(s:St):tM [eY,y,z] at_ s=tF y z at_ s:=rA y z at_ s
theorem qE (y:By)(at_:Nat)(s:St):tM [lK,y] at_ s=vj y at_ s:=by
 show act2 lK y at_ s=_
 unfold act2 vj
 rw[if_neg (by decide),if_pos rfl]
theorem oI (at_:Nat)(s:St):tM [fX] at_ s=s.elseA at_:=by
 show act1 fX at_ s=_
 unfold act1
 rw[if_neg (by decide),if_pos rfl]
theorem qD (at_:Nat)(s:St):tM [jS] at_ s=s.endA at_:=by
 show act1 jS at_ s=_
 unfold act1
 rw[if_pos rfl]
theorem fE (w:By)(r:List By)(n at_:Nat)(s:St)(h:(w,n)∈[(kIf,1),(eu,1),(eY,2),(lK,1),(fX,0),(jS,0)])(m:r.length≠n):tM (w::r) at_ s=.err 190 at_:=by
 simp only[List.mem_cons,Prod.mk.injEq,List.not_mem_nil,or_false]at h
 match r,m with
 | [],m=>
   rcases h with⟨rfl,rfl⟩ | ⟨rfl,rfl⟩ | ⟨rfl,rfl⟩ | ⟨rfl,rfl⟩ | ⟨rfl,rfl⟩ | ⟨rfl,rfl⟩ <;> first | rfl | exact absurd rfl m
 | [x],m=>
   show act2 w x at_ s=_
   unfold act2
   rcases h with⟨rfl,rfl⟩ | ⟨rfl,rfl⟩ | ⟨rfl,rfl⟩ | ⟨rfl,rfl⟩ | ⟨rfl,rfl⟩ | ⟨rfl,rfl⟩ <;> first | exact absurd rfl m | (rw[if_neg (by decide),if_neg (by decide)])
 | [x,y],m=>
   show act3 w x y at_ s=_
   unfold act3
   rcases h with⟨rfl,rfl⟩ | ⟨rfl,rfl⟩ | ⟨rfl,rfl⟩ | ⟨rfl,rfl⟩ | ⟨rfl,rfl⟩ | ⟨rfl,rfl⟩ <;> first | exact absurd rfl m | (rw[if_neg (by decide)])
 | _::_::_::_,_=>rfl
theorem rO (x:By):∀w∈fG x,w.length<=x.length:=by
 intro w hw
 exact nt _ _ w (List.mem_filter.1 hw).1
noncomputable def oK (B q bx:Nat)(hq:q<=16777215)(x:ByteArray)(hx:x.size<=16777215)(at_:Nat)(aD:at_<=16777216)(s:St)(w:World)(h:RdM B q bx s w)(aw:Sh w)(hc:gS (bl x)=false):
 PSigma λP:Nat->Prop=>PSigma λQ:Nat->Prop=>(∀u,P u)->(∀u,Q u)->Calls Tryz.prog 47 #[.pointer (some ⟨bx,0,none⟩),.string x,.int .i64 (at_:Nat)] w (ew B (q+2) bx w (action (bl x) at_ s)):=by
 refine⟨?P,?Q,λae ad=> ?main⟩
 case main=>
  have h0:=h
  obtain⟨ah,bs,sv,dv,cv,hg⟩:=h0
  have CP:=Tryz.strings_CutPrefix x ⟨#[47,42]⟩
  have aB:=hc
  have ag:=hc
  rw[mj]at ag
  obtain⟨T,hT⟩:∃T:ByteArray,(⟨(Lib.trimPrefix x.data.toList [47,42]).toArray⟩:ByteArray)=T:=⟨_,rfl⟩
  rw[show(⟨#[47,42]⟩:ByteArray).data.toList=[47,42]from rfl,hT]at CP
  have aC:T.size<=x.size:=by
   have e:T.size=(Lib.trimPrefix x.data.toList [47,42]).length:=by rw[<-hT];exact fi _
   rw[e]
   have e2:x.data.toList.length=x.size:=fH x
   unfold Lib.trimPrefix
   split
   · rw[List.length_drop];omega
   · omega
  have HS:=Tryz.strings_HasSuffix T ⟨#[42,47]⟩
  rw[show(⟨#[42,47]⟩:ByteArray).data.toList=[42,47]from rfl]at HS
  have af:(Lib.hasPrefix x.data.toList [47,42]&&Lib.hasSuffix T.data.toList [42,47])=false:=by rw[<-hT];exact ag
  have ai:=AF (λw=>HS w (by omega))
  have ax:= @run_makeMap Tryz.prog
  have ay:∀(fn:Fn) (first cap:Array Value) (w:World),(Instr.makeFunc fn first cap).run Tryz.prog w=.ok (.func fn first cap) w:=λ_ _ _ _=>rfl
  have WM:=AF (uq (w:=w) (s:=x))
  have CO:=AF (λw:World=>mV w.heap.size x (by omega) ((fG (bl x)).map mkB) (px x) (by rw[List.length_map];have:=qL (bl x);rw[fH]at this;omega) (w.alloc (.cells #[.string x] 9)) (by rw[dW (heap_alloc_new w _)];rfl))
  clear HS hT aC
  have az:Below w.heap.size w (w.alloc (.cells #[.string x] 9)):=(AH w.heap.size w).alloc (AG _) _
  have M:=AF az
  clear az
  obtain⟨L,hL⟩:∃L,(fG (bl x)).map mkB=L:=⟨_,rfl⟩
  rw[hL]at CO
  have HA:=AF (vB (bl x) at_ s aB)
  have ap:=AF (rO (bl x))
  obtain⟨WL,am⟩:∃WL,fG (bl x)=WL:=⟨_,rfl⟩
  rw[am]at HA ap
  rw[am]at hL
  have aA:=AF hL
  have aj:=AF (yJ WL L hL)
  clear am hL
  cases hp:Lib.hasPrefix x.data.toList [47,42]with
  | false=>
    rw[hp]at CP
    clear ag af hp ai ad
    go_enter Tryz.func47,Tryz.ntmps47
    go_wp2_with fail
    refine(CP _).mono ?_
    rintro e w' ⟨rfl,hw⟩
    replace hw:=hw.symm
    subst hw
    go_wp2_with fail
    refine WM.out.mono ?_
    rintro e w1 ⟨rfl,rfl⟩
    go_wp2_with fail
    refine(CO.out w).mono ?_
    rintro e w2 ⟨wv,rfl,W,ab⟩
    have K:=M.out.trans (ab.mono M.out.size)
    have I:Strs (New w w2) w2 wv L:=W.mono (λb A=>⟨Nat.le_trans M.out.size A.1,A.2⟩)
    have U:=AF K
    have ac:=AF I
    obtain⟨wa,wc,rfl,-⟩:=W
    clear ab K I
    have H:=ku.made w2
    go_upto_region 4 with(refine fo _ rfl _ _ _ _ rfl 9 _ Tryz.underlying156 Tryz.underlying9 _ _ _ _ _ H rfl _ _ rfl rfl (by rfl) ?_;clear H;intro N H)
    replace H:ku w2.heap.size w2 w2.heap.size (zv bx) 6 N:=H
    obtain⟨O,-,aa⟩:=H
    have HV:=AF O
    have E:=AF aa
    have J:w2.heap.size<N.heap.size:=dX O
    clear O aa
    have H:=ku.made N
    go_upto_region 5 with(refine fo _ rfl _ _ _ _ rfl 9 _ Tryz.underlying89 Tryz.underlying9 _ _ _ _ _ H rfl _ _ rfl rfl (by rfl) ?_;clear H;intro V H)
    replace H:ku N.heap.size N N.heap.size Ah 6 V:=H
    obtain⟨al,-,R⟩:=H
    have ak:=(R.block w2.heap.size J).trans HV.out
    have m:=E.out.trans (R.mono E.out.size)
    have o:=U.out.trans (m.mono U.out.size)
    have G:Strs (New w V) V (.slice wa L.length wc) L:=(ac.out.kept (λb A=>m.block b A.2.1)).mono (λb A=>⟨A.1,AI A.2.1 m.size,A.2.2.same (m.block b A.2.1)⟩)
    have Z:=hg.same (gp (B:=B) o) (λ_=>trivial) (AG q)
    have r:Strs (Ok (gv ah w.heap.size) V) V (.slice wa L.length wc) L:=G.mono (λb A=>iC A)
    have Y:=aw.below o
    have av:=AF (o.mono hg.hB)
    have au:Hid (B<=w.heap.size):=hg.hB
    have ar:=AF Z
    have aq:=AF r
    clear HV E J ac U R m o G r Z M CO WM CP ax ay
    rename_i K1 an K0 ao
    obtain⟨u,hu⟩:∃u:Nat,u=0:=⟨0,rfl⟩
    have HC:=ae u
    clear hu ae
    revert ah bs sv dv cv T L WL ap HA aA aj w2 wa wc N V K1 an K0 ao al ak Y av au ar aq
    exact HC
  | true=>
    rw[hp,Bool.true_and]at af
    rw[hp]at CP
    rw[af]at ai
    clear ag af hp ae
    go_enter Tryz.func47,Tryz.ntmps47
    go_wp2_with fail
    refine(CP _).mono ?_
    rintro e w' ⟨rfl,hw⟩
    replace hw:=hw.symm
    subst hw
    go_wp2_with fail
    refine(ai.out _).mono ?_
    rintro e w' ⟨rfl,hw⟩
    replace hw:=hw.symm
    subst hw
    go_wp2_with fail
    refine WM.out.mono ?_
    rintro e w1 ⟨rfl,rfl⟩
    go_wp2_with fail
    refine(CO.out w).mono ?_
    rintro e w2 ⟨wv,rfl,W,ab⟩
    have K:=M.out.trans (ab.mono M.out.size)
    have I:Strs (New w w2) w2 wv L:=W.mono (λb A=>⟨Nat.le_trans M.out.size A.1,A.2⟩)
    have U:=AF K
    have ac:=AF I
    obtain⟨wa,wc,rfl,-⟩:=W
    clear ab K I
    have H:=ku.made w2
    go_upto_region 4 with(refine fo _ rfl _ _ _ _ rfl 9 _ Tryz.underlying156 Tryz.underlying9 _ _ _ _ _ H rfl _ _ rfl rfl (by rfl) ?_;clear H;intro N H)
    replace H:ku w2.heap.size w2 w2.heap.size (zv bx) 6 N:=H
    obtain⟨O,-,aa⟩:=H
    have HV:=AF O
    have E:=AF aa
    have J:w2.heap.size<N.heap.size:=dX O
    clear O aa
    have H:=ku.made N
    go_upto_region 5 with(refine fo _ rfl _ _ _ _ rfl 9 _ Tryz.underlying89 Tryz.underlying9 _ _ _ _ _ H rfl _ _ rfl rfl (by rfl) ?_;clear H;intro V H)
    replace H:ku N.heap.size N N.heap.size Ah 6 V:=H
    obtain⟨al,-,R⟩:=H
    have ak:=(R.block w2.heap.size J).trans HV.out
    have m:=E.out.trans (R.mono E.out.size)
    have o:=U.out.trans (m.mono U.out.size)
    have G:Strs (New w V) V (.slice wa L.length wc) L:=(ac.out.kept (λb A=>m.block b A.2.1)).mono (λb A=>⟨A.1,AI A.2.1 m.size,A.2.2.same (m.block b A.2.1)⟩)
    have Z:=hg.same (gp (B:=B) o) (λ_=>trivial) (AG q)
    have r:Strs (Ok (gv ah w.heap.size) V) V (.slice wa L.length wc) L:=G.mono (λb A=>iC A)
    have Y:=aw.below o
    have av:=AF (o.mono hg.hB)
    have au:Hid (B<=w.heap.size):=hg.hB
    have ar:=AF Z
    have aq:=AF r
    clear HV E J ac U R m o G r Z M CO WM CP ai ax ay
    rename_i K1 an K0 ao
    obtain⟨u,hu⟩:∃u:Nat,u=0:=⟨0,rfl⟩
    have HC:=ad u
    clear hu ad
    revert ah bs sv dv cv T L WL ap HA aA aj w2 wa wc N V K1 an K0 ao al ak Y av au ar aq
    exact HC
theorem zZ (B q bx:Nat)(hq:q<=16777215)(x:ByteArray)(hx:x.size<=16777215)(at_:Nat)(ab:at_<=16777216)(s:St)(w:World)(h:RdM B q bx s w)(aA:Sh w)(hc:gS (bl x)=false):∀u,(oK B q bx hq x hx at_ ab s w h aA hc).1 u:=by
 unfold oK
 intro u aw bs sv dv cv hg T L WL R HA Y aj w2 wa wc w3 A K1 aC K0 aD O K af V ax M W
 clear h hc hg
 have r:=aj.out
 clear aj
 have ah:∀LB:List ByteArray,WL.map mkB=LB->Strs (Ok (gv aw w.heap.size) A) A (.slice wa L.length wc) LB:=λLB e=>by rw[<-e,Y.out];exact W.out
 cases WL with
 | nil=>
   have HE:Hid (action (bl x) at_ s=.err 190 at_):=HA.out
   have t0:((L.length:Int)==0)=true:=by rw[r];rfl
   clear HA R Y r M O K W
   go_wp2_with fail
   rw[HE.out]
   exact⟨rfl,V.out,rfl⟩
 | cons w0 WR=>
   have t0:((L.length:Int)==0)=false:=by rw[beq_eq_false_iff_ne,r];simp only[List.length_cons];omega
   have l0:0<L.length:=by rw[r];simp
   obtain⟨a,cc,ay,k1,k2,k3⟩:=W.out
   injection ay with e1 e2 e3
   subst e1;subst e3
   obtain⟨b,o,rfl,aB,av⟩:=k3 (by intro e;rw[e]at l0;simp at l0)
   have aa:A.cell? ⟨b,o,none⟩=some (.string (mkB w0)):=av 0 _ (by rw[<-Y.out];rfl)
   clear av k3 k1 k2 aB
   by_cases aq:w0=kIf
   · subst aq
     replace aa:A.cell? ⟨b,o,none⟩=some (.string ⟨#[105,102]⟩):=aa
     have ac:(Instr.lookup 156 (.map (some w2.heap.size)) (.string ⟨#[105,102]⟩) true).run Tryz.prog A=.ok (.tuple #[.func (.func 82) #[.pointer (some ⟨bx,0,none⟩)] #[],.bool true]) A:=
      ez _ _ _ _ _ _ _ 0 _ true Tryz.underlying156 Tryz.underlying9 K rfl
     have ag:(Instr.lookup 89 (.map (some w3.heap.size)) (.string ⟨#[105,102]⟩) false).run Tryz.prog A=.ok (.int .i64 2) A:=
      ez _ _ _ _ _ _ _ 0 _ false Tryz.underlying89 Tryz.underlying9 O rfl
     by_cases hn:WR.length=1
     · have t9:((L.length:Int)==2)=true:=by rw[beq_iff_eq,r];simp only[List.length_cons];omega
       obtain⟨y,rfl⟩:∃y,WR=[y]:=by
        match WR,hn with
        | [y],_=>exact⟨y,rfl⟩
       have VC:Hid (Calls Tryz.prog 82 #[.pointer (some ⟨bx,0,none⟩),.slice (some ⟨b,o,none⟩) L.length wc,.int .i64 (at_:Nat)] A (ew B (q+2) bx A (action (bl x) at_ s))):=by
        have hy:y.length<=16777216:=by have:=R.out y (by simp);rw[fH]at this;omega
        have:=gD B q bx 3 kIf y (by first | exact .inl ⟨rfl,rfl⟩ | exact .inr ⟨rfl,rfl⟩) hy at_ ab s _ bs sv dv cv _ A M.out af (ah _ rfl)
        unfold Hid
        rw[HA.out,tL]
        refine Calls.mono ?_ λe w' hp=>ew.more hp (Nat.le_add_right q 2)
        exact this
       have Z:L.length=2:=by rw[r];rfl
       rw[Z]at VC ⊢
       clear HA R Y r M O K W hn Z t9 t0 l0
       go_wp2_with fail
       refine VC.out.mono ?_
       rintro e w5 ⟨E,U⟩
       have I:=AF (V.out.trans E)
       clear E VC
       cases J:action (bl x) at_ s with
       | ok s3=>
         have G:=AF J
         rw[J]at U
         obtain⟨rfl,h6⟩:=U
         have H6:=AF h6
         clear h6 J
         go_wp2_with fail
         first | go_end0 | refine bodyPost_ret (results_none rfl _ _ _) rfl ?_
         rw[G.out]
         exact⟨I.out,rfl,H6.out⟩
       | err ee ii=>
         rw[J]at U
         have G:=AF J
         have h6:e=.panicked [{v:=.iface 84 (.agg #[.int .i64 (ee:Nat),.int .i64 (ii:Nat)]),recovered:=false}]:=U
         subst h6
         clear U J
         go_wp2_with fail
         try rw[G.out]
         exact⟨rfl,I.out,rfl⟩
     have t9:((L.length:Int)==2)=false:=by rw[beq_eq_false_iff_ne,r];simp only[List.length_cons];omega
     have HE:Hid (action (bl x) at_ s=.err 190 at_):=by unfold Hid;rw[HA.out];exact fE kIf WR 1 at_ s (by decide) hn
     obtain⟨m,hm⟩:∃m,L.length=m:=⟨_,rfl⟩
     rw[hm]at t0 l0 t9 ⊢
     have ad:∃v,((m:Int)==1)=v:=⟨_,rfl⟩
     obtain⟨v1,t1⟩:=ad
     clear hm
     clear HA R Y r M O K W hn
     cases v1
     all_goals
      go_wp2_with fail
      rw[HE.out]
      exact⟨rfl,V.out,rfl⟩
   by_cases ap:w0=eu
   · subst ap
     replace aa:A.cell? ⟨b,o,none⟩=some (.string ⟨#[114,97,110,103,101]⟩):=aa
     have ac:(Instr.lookup 156 (.map (some w2.heap.size)) (.string ⟨#[114,97,110,103,101]⟩) true).run Tryz.prog A=.ok (.tuple #[.func (.func 82) #[.pointer (some ⟨bx,0,none⟩)] #[],.bool true]) A:=
      ez _ _ _ _ _ _ _ 1 _ true Tryz.underlying156 Tryz.underlying9 K rfl
     have ag:(Instr.lookup 89 (.map (some w3.heap.size)) (.string ⟨#[114,97,110,103,101]⟩) false).run Tryz.prog A=.ok (.int .i64 2) A:=
      ez _ _ _ _ _ _ _ 1 _ false Tryz.underlying89 Tryz.underlying9 O rfl
     by_cases hn:WR.length=1
     · have t9:((L.length:Int)==2)=true:=by rw[beq_iff_eq,r];simp only[List.length_cons];omega
       obtain⟨y,rfl⟩:∃y,WR=[y]:=by
        match WR,hn with
        | [y],_=>exact⟨y,rfl⟩
       have VC:Hid (Calls Tryz.prog 82 #[.pointer (some ⟨bx,0,none⟩),.slice (some ⟨b,o,none⟩) L.length wc,.int .i64 (at_:Nat)] A (ew B (q+2) bx A (action (bl x) at_ s))):=by
        have hy:y.length<=16777216:=by have:=R.out y (by simp);rw[fH]at this;omega
        have:=gD B q bx 4 eu y (by first | exact .inl ⟨rfl,rfl⟩ | exact .inr ⟨rfl,rfl⟩) hy at_ ab s _ bs sv dv cv _ A M.out af (ah _ rfl)
        unfold Hid
        rw[HA.out,mp]
        refine Calls.mono ?_ λe w' hp=>ew.more hp (Nat.le_add_right q 2)
        exact this
       have Z:L.length=2:=by rw[r];rfl
       rw[Z]at VC ⊢
       clear HA R Y r M O K W hn Z t9 t0 l0
       go_wp2_with fail
       refine VC.out.mono ?_
       rintro e w5 ⟨E,U⟩
       have I:=AF (V.out.trans E)
       clear E VC
       cases J:action (bl x) at_ s with
       | ok s3=>
         have G:=AF J
         rw[J]at U
         obtain⟨rfl,h6⟩:=U
         have H6:=AF h6
         clear h6 J
         go_wp2_with fail
         first | go_end0 | refine bodyPost_ret (results_none rfl _ _ _) rfl ?_
         rw[G.out]
         exact⟨I.out,rfl,H6.out⟩
       | err ee ii=>
         rw[J]at U
         have G:=AF J
         have h6:e=.panicked [{v:=.iface 84 (.agg #[.int .i64 (ee:Nat),.int .i64 (ii:Nat)]),recovered:=false}]:=U
         subst h6
         clear U J
         go_wp2_with fail
         try rw[G.out]
         exact⟨rfl,I.out,rfl⟩
     have t9:((L.length:Int)==2)=false:=by rw[beq_eq_false_iff_ne,r];simp only[List.length_cons];omega
     have HE:Hid (action (bl x) at_ s=.err 190 at_):=by unfold Hid;rw[HA.out];exact fE eu WR 1 at_ s (by decide) hn
     obtain⟨m,hm⟩:∃m,L.length=m:=⟨_,rfl⟩
     rw[hm]at t0 l0 t9 ⊢
     have ad:∃v,((m:Int)==1)=v:=⟨_,rfl⟩
     obtain⟨v1,t1⟩:=ad
     clear hm
     clear HA R Y r M O K W hn
     cases v1
     all_goals
      go_wp2_with fail
      rw[HE.out]
      exact⟨rfl,V.out,rfl⟩
   by_cases ao:w0=eY
   · subst ao
     replace aa:A.cell? ⟨b,o,none⟩=some (.string ⟨#[99,97,108,108]⟩):=aa
     have ac:(Instr.lookup 156 (.map (some w2.heap.size)) (.string ⟨#[99,97,108,108]⟩) true).run Tryz.prog A=.ok (.tuple #[.func (.func 83) #[.pointer (some ⟨bx,0,none⟩)] #[],.bool true]) A:=
      ez _ _ _ _ _ _ _ 2 _ true Tryz.underlying156 Tryz.underlying9 K rfl
     have ag:(Instr.lookup 89 (.map (some w3.heap.size)) (.string ⟨#[99,97,108,108]⟩) false).run Tryz.prog A=.ok (.int .i64 3) A:=
      ez _ _ _ _ _ _ _ 2 _ false Tryz.underlying89 Tryz.underlying9 O rfl
     by_cases hn:WR.length=2
     · have t9:((L.length:Int)==3)=true:=by rw[beq_iff_eq,r];simp only[List.length_cons];omega
       obtain⟨y,z,rfl⟩:∃y z,WR=[y,z]:=by
        match WR,hn with
        | [y,z],_=>exact⟨y,z,rfl⟩
       have VC:Hid (Calls Tryz.prog 83 #[.pointer (some ⟨bx,0,none⟩),.slice (some ⟨b,o,none⟩) L.length wc,.int .i64 (at_:Nat)] A (ew B (q+2) bx A (action (bl x) at_ s))):=by
        have hy:y.length<=16777216:=by have:=R.out y (by simp);rw[fH]at this;omega
        have hz:z.length<=16777216:=by have:=R.out z (by simp);rw[fH]at this;omega
        have:=ml B q bx hq eY y z hy hz at_ ab s _ bs sv dv cv _ A M.out af (ah _ rfl)
        unfold Hid
        rw[HA.out,oJ]
        exact this
       have Z:L.length=3:=by rw[r];rfl
       rw[Z]at VC ⊢
       clear HA R Y r M O K W hn Z t9 t0 l0
       go_wp2_with fail
       refine VC.out.mono ?_
       rintro e w5 ⟨E,U⟩
       have I:=AF (V.out.trans E)
       clear E VC
       cases J:action (bl x) at_ s with
       | ok s3=>
         have G:=AF J
         rw[J]at U
         obtain⟨rfl,h6⟩:=U
         have H6:=AF h6
         clear h6 J
         go_wp2_with fail
         first | go_end0 | refine bodyPost_ret (results_none rfl _ _ _) rfl ?_
         rw[G.out]
         exact⟨I.out,rfl,H6.out⟩
       | err ee ii=>
         rw[J]at U
         have G:=AF J
         have h6:e=.panicked [{v:=.iface 84 (.agg #[.int .i64 (ee:Nat),.int .i64 (ii:Nat)]),recovered:=false}]:=U
         subst h6
         clear U J
         go_wp2_with fail
         try rw[G.out]
         exact⟨rfl,I.out,rfl⟩
     have t9:((L.length:Int)==3)=false:=by rw[beq_eq_false_iff_ne,r];simp only[List.length_cons];omega
     have HE:Hid (action (bl x) at_ s=.err 190 at_):=by unfold Hid;rw[HA.out];exact fE eY WR 2 at_ s (by decide) hn
     obtain⟨m,hm⟩:∃m,L.length=m:=⟨_,rfl⟩
     rw[hm]at t0 l0 t9 ⊢
     have ad:∃v,((m:Int)==1)=v:=⟨_,rfl⟩
     obtain⟨v1,t1⟩:=ad
     clear hm
     clear HA R Y r M O K W hn
     cases v1
     all_goals
      go_wp2_with fail
      rw[HE.out]
      exact⟨rfl,V.out,rfl⟩
   by_cases an:w0=lK
   · subst an
     replace aa:A.cell? ⟨b,o,none⟩=some (.string ⟨#[100,101,102,105,110,101]⟩):=aa
     have ac:(Instr.lookup 156 (.map (some w2.heap.size)) (.string ⟨#[100,101,102,105,110,101]⟩) true).run Tryz.prog A=.ok (.tuple #[.func (.func 84) #[.pointer (some ⟨bx,0,none⟩)] #[],.bool true]) A:=
      ez _ _ _ _ _ _ _ 3 _ true Tryz.underlying156 Tryz.underlying9 K rfl
     have ag:(Instr.lookup 89 (.map (some w3.heap.size)) (.string ⟨#[100,101,102,105,110,101]⟩) false).run Tryz.prog A=.ok (.int .i64 2) A:=
      ez _ _ _ _ _ _ _ 3 _ false Tryz.underlying89 Tryz.underlying9 O rfl
     by_cases hn:WR.length=1
     · have t9:((L.length:Int)==2)=true:=by rw[beq_iff_eq,r];simp only[List.length_cons];omega
       obtain⟨y,rfl⟩:∃y,WR=[y]:=by
        match WR,hn with
        | [y],_=>exact⟨y,rfl⟩
       have VC:Hid (Calls Tryz.prog 84 #[.pointer (some ⟨bx,0,none⟩),.slice (some ⟨b,o,none⟩) L.length wc,.int .i64 (at_:Nat)] A (ew B (q+2) bx A (action (bl x) at_ s))):=by
        have hy:y.length<=16777216:=by have:=R.out y (by simp);rw[fH]at this;omega
        have:=j8 B q bx (by omega) lK y hy at_ ab s _ bs sv dv cv _ A M.out (ah _ rfl)
        unfold Hid
        rw[HA.out,qE]
        refine Calls.mono ?_ λe w' hp=>ew.more hp (Nat.le_add_right q 2)
        exact this
       have Z:L.length=2:=by rw[r];rfl
       rw[Z]at VC ⊢
       clear HA R Y r M O K W hn Z t9 t0 l0
       go_wp2_with fail
       refine VC.out.mono ?_
       rintro e w5 ⟨E,U⟩
       have I:=AF (V.out.trans E)
       clear E VC
       cases J:action (bl x) at_ s with
       | ok s3=>
         have G:=AF J
         rw[J]at U
         obtain⟨rfl,h6⟩:=U
         have H6:=AF h6
         clear h6 J
         go_wp2_with fail
         first | go_end0 | refine bodyPost_ret (results_none rfl _ _ _) rfl ?_
         rw[G.out]
         exact⟨I.out,rfl,H6.out⟩
       | err ee ii=>
         rw[J]at U
         have G:=AF J
         have h6:e=.panicked [{v:=.iface 84 (.agg #[.int .i64 (ee:Nat),.int .i64 (ii:Nat)]),recovered:=false}]:=U
         subst h6
         clear U J
         go_wp2_with fail
         try rw[G.out]
         exact⟨rfl,I.out,rfl⟩
     have t9:((L.length:Int)==2)=false:=by rw[beq_eq_false_iff_ne,r];simp only[List.length_cons];omega
     have HE:Hid (action (bl x) at_ s=.err 190 at_):=by unfold Hid;rw[HA.out];exact fE lK WR 1 at_ s (by decide) hn
     obtain⟨m,hm⟩:∃m,L.length=m:=⟨_,rfl⟩
     rw[hm]at t0 l0 t9 ⊢
     have ad:∃v,((m:Int)==1)=v:=⟨_,rfl⟩
     obtain⟨v1,t1⟩:=ad
     clear hm
     clear HA R Y r M O K W hn
     cases v1
     all_goals
      go_wp2_with fail
      rw[HE.out]
      exact⟨rfl,V.out,rfl⟩
   by_cases am:w0=fX
   · subst am
     replace aa:A.cell? ⟨b,o,none⟩=some (.string ⟨#[101,108,115,101]⟩):=aa
     have ac:(Instr.lookup 156 (.map (some w2.heap.size)) (.string ⟨#[101,108,115,101]⟩) true).run Tryz.prog A=.ok (.tuple #[.func (.func 85) #[.pointer (some ⟨bx,0,none⟩)] #[],.bool true]) A:=
      ez _ _ _ _ _ _ _ 4 _ true Tryz.underlying156 Tryz.underlying9 K rfl
     have ag:(Instr.lookup 89 (.map (some w3.heap.size)) (.string ⟨#[101,108,115,101]⟩) false).run Tryz.prog A=.ok (.int .i64 1) A:=
      ez _ _ _ _ _ _ _ 4 _ false Tryz.underlying89 Tryz.underlying9 O rfl
     by_cases hn:WR.length=0
     · have t9:((L.length:Int)==1)=true:=by rw[beq_iff_eq,r];simp only[List.length_cons];omega
       obtain rfl:WR=[]:=List.length_eq_zero_iff.1 hn
       have VC:Hid (Calls Tryz.prog 85 #[.pointer (some ⟨bx,0,none⟩),.slice (some ⟨b,o,none⟩) L.length wc,.int .i64 (at_:Nat)] A (ew B (q+2) bx A (action (bl x) at_ s))):=by
        have:=kP B q bx at_ ab s (.slice (some ⟨b,o,none⟩) L.length wc) A ⟨_,_,_,_,_,M.out⟩
        unfold Hid
        rw[HA.out,oI]
        refine Calls.mono ?_ λe w' hp=>ew.more (q:=q) hp (by omega)
        exact this
       have Z:L.length=1:=by rw[r];rfl
       rw[Z]at VC ⊢
       clear HA R Y r M O K W hn Z t9 t0 l0
       go_wp2_with fail
       refine VC.out.mono ?_
       rintro e w5 ⟨E,U⟩
       have I:=AF (V.out.trans E)
       clear E VC
       cases J:action (bl x) at_ s with
       | ok s3=>
         have G:=AF J
         rw[J]at U
         obtain⟨rfl,h6⟩:=U
         have H6:=AF h6
         clear h6 J
         go_wp2_with fail
         first | go_end0 | refine bodyPost_ret (results_none rfl _ _ _) rfl ?_
         rw[G.out]
         exact⟨I.out,rfl,H6.out⟩
       | err ee ii=>
         rw[J]at U
         have G:=AF J
         have h6:e=.panicked [{v:=.iface 84 (.agg #[.int .i64 (ee:Nat),.int .i64 (ii:Nat)]),recovered:=false}]:=U
         subst h6
         clear U J
         go_wp2_with fail
         try rw[G.out]
         exact⟨rfl,I.out,rfl⟩
     have t9:((L.length:Int)==1)=false:=by rw[beq_eq_false_iff_ne,r];simp only[List.length_cons];omega
     have HE:Hid (action (bl x) at_ s=.err 190 at_):=by unfold Hid;rw[HA.out];exact fE fX WR 0 at_ s (by decide) hn
     obtain⟨m,hm⟩:∃m,L.length=m:=⟨_,rfl⟩
     rw[hm]at t0 l0 t9 ⊢
     clear hm
     clear HA R Y r M O K W hn
     go_wp2_with fail
     rw[HE.out]
     exact⟨rfl,V.out,rfl⟩
   by_cases al:w0=jS
   · subst al
     replace aa:A.cell? ⟨b,o,none⟩=some (.string ⟨#[101,110,100]⟩):=aa
     have ac:(Instr.lookup 156 (.map (some w2.heap.size)) (.string ⟨#[101,110,100]⟩) true).run Tryz.prog A=.ok (.tuple #[.func (.func 86) #[.pointer (some ⟨bx,0,none⟩)] #[],.bool true]) A:=
      ez _ _ _ _ _ _ _ 5 _ true Tryz.underlying156 Tryz.underlying9 K rfl
     have ag:(Instr.lookup 89 (.map (some w3.heap.size)) (.string ⟨#[101,110,100]⟩) false).run Tryz.prog A=.ok (.int .i64 1) A:=
      ez _ _ _ _ _ _ _ 5 _ false Tryz.underlying89 Tryz.underlying9 O rfl
     by_cases hn:WR.length=0
     · have t9:((L.length:Int)==1)=true:=by rw[beq_iff_eq,r];simp only[List.length_cons];omega
       obtain rfl:WR=[]:=List.length_eq_zero_iff.1 hn
       have VC:Hid (Calls Tryz.prog 86 #[.pointer (some ⟨bx,0,none⟩),.slice (some ⟨b,o,none⟩) L.length wc,.int .i64 (at_:Nat)] A (ew B (q+2) bx A (action (bl x) at_ s))):=by
        have:=og B q bx at_ (by omega) ab s (.slice (some ⟨b,o,none⟩) L.length wc) A ⟨_,_,_,_,_,M.out⟩
        unfold Hid
        rw[HA.out,qD]
        refine Calls.mono ?_ λe w' hp=>ew.more (q:=q+1) hp (by omega)
        exact this
       have Z:L.length=1:=by rw[r];rfl
       rw[Z]at VC ⊢
       clear HA R Y r M O K W hn Z t9 t0 l0
       go_wp2_with fail
       refine VC.out.mono ?_
       rintro e w5 ⟨E,U⟩
       have I:=AF (V.out.trans E)
       clear E VC
       cases J:action (bl x) at_ s with
       | ok s3=>
         have G:=AF J
         rw[J]at U
         obtain⟨rfl,h6⟩:=U
         have H6:=AF h6
         clear h6 J
         go_wp2_with fail
         first | go_end0 | refine bodyPost_ret (results_none rfl _ _ _) rfl ?_
         rw[G.out]
         exact⟨I.out,rfl,H6.out⟩
       | err ee ii=>
         rw[J]at U
         have G:=AF J
         have h6:e=.panicked [{v:=.iface 84 (.agg #[.int .i64 (ee:Nat),.int .i64 (ii:Nat)]),recovered:=false}]:=U
         subst h6
         clear U J
         go_wp2_with fail
         try rw[G.out]
         exact⟨rfl,I.out,rfl⟩
     have t9:((L.length:Int)==1)=false:=by rw[beq_eq_false_iff_ne,r];simp only[List.length_cons];omega
     have HE:Hid (action (bl x) at_ s=.err 190 at_):=by unfold Hid;rw[HA.out];exact fE jS WR 0 at_ s (by decide) hn
     obtain⟨m,hm⟩:∃m,L.length=m:=⟨_,rfl⟩
     rw[hm]at t0 l0 t9 ⊢
     clear hm
     clear HA R Y r M O K W hn
     go_wp2_with fail
     rw[HE.out]
     exact⟨rfl,V.out,rfl⟩
   have ak:kws.contains w0=false:=by
    rw[Bool.eq_false_iff]
    intro e
    rw[List.contains_eq_mem]at e
    simp only[kws,List.mem_cons,List.not_mem_nil,or_false,decide_eq_true_eq]at e
    rcases e with e | e | e | e | e | e
    · exact aq e
    · exact am e
    · exact al e
    · exact ap e
    · exact ao e
    · exact an e
   clear aq ap ao an am al
   have ac:(Instr.lookup 156 (.map (some w2.heap.size)) (.string (mkB w0)) true).run Tryz.prog A=.ok (.tuple #[.nilFunc,.bool false]) A:=
    fL _ _ 155 _ _ _ _ _ true Tryz.underlying156 Tryz.underlying9 K (nf bx (mkB w0) ak) (by kernel_rfl)
   obtain⟨X,hX⟩:∃X,mkB w0=X:=⟨_,rfl⟩
   rw[hX]at ac aa
   by_cases hr:WR=[]
   · subst hr
     have t1:((L.length:Int)==1)=true:=by rw[beq_iff_eq,r];rfl
     have ae:=HA.out
     rw[qC w0 at_ s ak]at ae
     have az:w0.length<=16777216:=by have:=R.out w0 (by simp);rw[fH]at this;omega
     have MU:=AF (iz (mkB w0) (by rw[fi];exact az) at_ ab A af)
     rw[pM,hX]at MU
     cases hw:kH w0 with
     | none=>
       rw[hw]at MU ae
       have HE:=AF ae
       clear hw ae HA R Y r M O K W hX
       go_wp2_with fail
       refine MU.out.mono ?_
       rintro e w5 ⟨E,rfl⟩
       have I:=AF (V.out.trans (E.mono (by have:=V.out.size;have:=ax.out;omega)))
       clear E
       go_wp2_with fail
       rw[HE.out]
       exact⟨rfl,I.out,rfl⟩
     | some p=>
       rw[hw]at MU ae
       have HE:=AF ae
       clear hw ae HA R Y r O K W hX
       go_wp2_with fail
       refine MU.out.mono ?_
       rintro e w5 ⟨E,v,rfl,ai⟩
       obtain⟨N,hN⟩:∃N,p.2.map mkB=N:=⟨_,rfl⟩
       rw[hN]at ai
       have ⟨va,vc,hv,_⟩:=ai
       subst hv
       have ar:Strs (Ok (gv (gv aw w.heap.size) A.heap.size) w5) w5 (.slice va N.length vc) N:=ai.mono (λb hb=>iC hb)
       have au:=M.out.same (gp (B:=B) E) (λ_=>trivial) (AG q)
       have I:=AF (V.out.trans (E.mono (by have:=V.out.size;have:=ax.out;omega)))
       have AD:Hid (Calls Tryz.prog 46 #[.pointer (some ⟨bx,0,none⟩),.agg #[.int .u8 2,.int .i64 (at_:Nat),.string ⟨#[]⟩,.bool p.1,.slice va N.length vc,.string ⟨#[]⟩,.slice none 0 0,.slice none 0 0]] w5 (ew B (q+1) bx w5 (action (bl x) at_ s))):=by
        have:=iv B q bx (by omega) s (jv at_ p.1 p.2) at_ ab rfl _ _ _ _ _ (.slice va N.length vc) w5 au (by show Strs _ _ _ (p.2.map mkB);rw[hN];exact ar)
        unfold Hid
        rw[HE.out]
        exact this
       have VC:=AF (Calls.mono AD.out λe w' hp=>ew.more hp (Nat.le_succ (q+1)))
       clear E ai ar au M AD
       replace V:=I
       go_wp2_with fail
       refine VC.out.mono ?_
       rintro e w5 ⟨E,U⟩
       have I:=AF (V.out.trans E)
       clear E VC
       cases J:action (bl x) at_ s with
       | ok s3=>
         have G:=AF J
         rw[J]at U
         obtain⟨rfl,h6⟩:=U
         have H6:=AF h6
         clear h6 J
         go_wp2_with fail
         first | go_end0 | refine bodyPost_ret (results_none rfl _ _ _) rfl ?_
         rw[G.out]
         exact⟨I.out,rfl,H6.out⟩
       | err ee ii=>
         rw[J]at U
         have G:=AF J
         have h6:e=.panicked [{v:=.iface 84 (.agg #[.int .i64 (ee:Nat),.int .i64 (ii:Nat)]),recovered:=false}]:=U
         subst h6
         clear U J
         go_wp2_with fail
         try rw[G.out]
         exact⟨rfl,I.out,rfl⟩
   · have HE:Hid (action (bl x) at_ s=.err 190 at_):=by unfold Hid;rw[HA.out];exact tK w0 WR at_ s ak hr
     have t1:((L.length:Int)==1)=false:=by
      rw[beq_eq_false_iff_ne,r]
      have:=List.length_pos_iff.2 hr
      simp only[List.length_cons];omega
     clear HA R Y r M O K W hX hr
     go_wp2_with fail
     rw[HE.out]
     exact⟨rfl,V.out,rfl⟩
end Go.Proofs.YtepcpgdfbaklfaaGreatDoor
